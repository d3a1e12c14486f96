/- Texts joined: AeA B C J1 J2 J3 J4 J1i J5 J6 J7 J8 J9 J10a J3a. -/
import Derived.Test.YtpdcfljbabpakaaAeFacts
import Derived.Test.YtpdcfljbabpakaaAeRun
import Derived.IntWalk
import Derived.Test.YtpdcfljbabpakaaAeLoop
import Derived.Lib.Strings
import Derived.Lib.Slices
import Derived.Lib.Walk
import Derived.Lib.Bytealg
/- What the functions of plain scalars answer. -/
set_option linter.unusedVariables false
set_option linter.unusedSimpArgs false
set_option maxRecDepth 100000
set_option maxHeartbeats 8000000
namespace Go.Proofs.Ytpdcfljbabpakaa
open Go Go.RowKit Go.Proofs.AE
theorem mixed : Try.prog.follows .mixedOrders = true := by kernel_rfl
variable {G : Nat → AV}
abbrev iV (n : Int) : AV := .one (.v (.lit (.int .i64 n)))
abbrev sV (s : ByteArray) : AV := .one (.v (.lit (.string s)))
abbrev bV (b : Bool) : AV := .one (.v (.lit (.bool b)))
abbrev iC (n : Int) : C := .v (.lit (.int .i64 n))
abbrev sC (s : ByteArray) : C := .v (.lit (.string s))

def okField (s : ByteArray) : Bool := decide (1 ≤ (s.size : Int)) && decide ((s.size : Int) ≤ 12)
def okText (s : ByteArray) : Bool := decide ((s.size : Int) ≤ 20)
def okCount (n : Int) : Bool := decide (-1099511627776 ≤ n) && decide (n ≤ 1099511627776)
def okNumber (n : Int) : Bool := decide (1 ≤ n) && decide (n ≤ 1048576)

theorem number_c (n : Int) : PCall Try.prog G 77 [iV n] (bV (okNumber n)) := by
  refine pcallc mixed Try.func77 ac_client_number ?_
  unfold okNumber
  simp -dsimp [go_sem]
  refine Cnd.intro (fun h => ?_) (fun h => ?_) <;> simp -dsimp [go_sem, h]
theorem field_c (s : ByteArray) : PCall Try.prog G 64 [sV s] (bV (okField s)) := by
  refine pcallc mixed Try.func64 ac_value_field ?_
  unfold okField
  simp -dsimp [go_sem]
  refine Cnd.intro (fun h => ?_) (fun h => ?_) <;> simp -dsimp [go_sem, h]
theorem text_c (s : ByteArray) : PCall Try.prog G 60 [sV s] (bV (okText s)) := by
  refine pcallc mixed Try.func60 ac_value_text ?_
  unfold okText
  simp -dsimp [go_sem]
theorem count_c (n : Int) : PCall Try.prog G 67 [iV n] (bV (okCount n)) := by
  refine pcallc mixed Try.func67 ac_value_count ?_
  unfold okCount
  simp -dsimp [go_sem]
  refine Cnd.intro (fun h => ?_) (fun h => ?_) <;> simp -dsimp [go_sem, h]

def pk (n m : Int) : Int := (if n < 0 then -(n + 1) else n).tmod m
theorem pk_range {n m : Int} (hm : 0 < m) : 0 ≤ pk n m ∧ pk n m < m := by
  unfold pk
  have h0 : 0 ≤ (if n < 0 then -(n + 1) else n) := by split <;> omega
  rw [Int.tmod_eq_emod_of_nonneg h0]
  exact ⟨Int.emod_nonneg _ (by omega), Int.emod_lt_of_pos _ hm⟩
def i64 (n : Int) : Prop := -9223372036854775808 ≤ n ∧ n ≤ 9223372036854775807
theorem picked_c (n m : Int) (hn : i64 n) (hm : m ≠ 0) : PCall Try.prog G 13 [iV n, iV m] (iV (pk n m)) := by
  refine pcallc mixed Try.func13 ac_rostrumkeep_picked ?_
  unfold pk
  unfold i64 at hn
  simp -dsimp [go_sem]
  refine Cnd.intro (fun h => ?_) (fun h => ?_)
  · simp at h
    simp -dsimp [go_sem, h, hm]
    rw [IntWalk.i64_in (n + 1) (by omega), IntWalk.i64_in _ (by omega), Int.neg_tmod]
  · simp at h
    have h' : ¬ n < 0 := by omega
    simp -dsimp [go_sem, h', hm]

def formOk (k : Int) (key field text : ByteArray) (n : Int) : Bool :=
  (k != 22 || decide (key = ⟨#[]⟩)) && ((k == 4 || k == 5 || k == 6) || decide (field = ⟨#[]⟩)) && ((k == 1 || k == 4 || k == 7 || k == 8 || k == 11 || k == 12 || k == 13 || k == 14 || k == 15 || k == 16) || decide (text = ⟨#[]⟩)) && ((k == 3 || k == 14 || k == 20) || n == 0)
def checkCommand (k : Int) (key field text : ByteArray) (n : Int) : Int :=
  if k < 1 then 3 else if 22 < k then 3 else if formOk k key field text n = false then 8
  else if (k != 22 && !okField key || ((k == 4 || k == 5 || k == 6) && !okField field)) || !okText text then 1
  else if okCount n = false then 2 else 0

theorem check1_c (key field text : ByteArray) (n : Int) : PCall Try.prog G 78 [.agg [iC 1, sC key, sC field, sC text, iC n]] (iV (checkCommand 1 key field text n)) := by
  refine pcallc mixed Try.func78 ac_value_CheckCommand ?_
  repeat' (first | (with_reducible first | refine Cn (fun h => ?_) fun h => ?_ | refine And.intro ?_ ?_ | refine wR ?_ | exact wr _ _ | refine wa ?_ | apply awp_join | refine q (field_c _) ?_ | refine qd (field_c _) ?_ | refine qz (field_c _) ?_ | refine q (text_c _) ?_ | refine qd (text_c _) ?_ | refine qz (text_c _) ?_ | refine q (count_c _) ?_ | refine qd (count_c _) ?_ | refine qz (count_c _) ?_) | (with_reducible refine CallZ.z ?_) | simp -dsimp [go_sem])
  all_goals (try simp_all [checkCommand, formOk])
  all_goals (intros; first | (simp_all; done) | trace_state)
theorem check2_c (key field text : ByteArray) (n : Int) : PCall Try.prog G 78 [.agg [iC 2, sC key, sC field, sC text, iC n]] (iV (checkCommand 2 key field text n)) := by
  refine pcallc mixed Try.func78 ac_value_CheckCommand ?_
  repeat' (first | (with_reducible first | refine Cn (fun h => ?_) fun h => ?_ | refine And.intro ?_ ?_ | refine wR ?_ | exact wr _ _ | refine wa ?_ | apply awp_join | refine q (field_c _) ?_ | refine qd (field_c _) ?_ | refine qz (field_c _) ?_ | refine q (text_c _) ?_ | refine qd (text_c _) ?_ | refine qz (text_c _) ?_ | refine q (count_c _) ?_ | refine qd (count_c _) ?_ | refine qz (count_c _) ?_) | (with_reducible refine CallZ.z ?_) | simp -dsimp [go_sem])
  all_goals (try simp_all [checkCommand, formOk])
  all_goals (intros; first | (simp_all; done) | trace_state)
theorem check3_c (key field text : ByteArray) (n : Int) : PCall Try.prog G 78 [.agg [iC 3, sC key, sC field, sC text, iC n]] (iV (checkCommand 3 key field text n)) := by
  refine pcallc mixed Try.func78 ac_value_CheckCommand ?_
  repeat' (first | (with_reducible first | refine Cn (fun h => ?_) fun h => ?_ | refine And.intro ?_ ?_ | refine wR ?_ | exact wr _ _ | refine wa ?_ | apply awp_join | refine q (field_c _) ?_ | refine qd (field_c _) ?_ | refine qz (field_c _) ?_ | refine q (text_c _) ?_ | refine qd (text_c _) ?_ | refine qz (text_c _) ?_ | refine q (count_c _) ?_ | refine qd (count_c _) ?_ | refine qz (count_c _) ?_) | (with_reducible refine CallZ.z ?_) | simp -dsimp [go_sem])
  all_goals (try simp_all [checkCommand, formOk])
  all_goals (intros; first | (simp_all; done) | trace_state)
theorem check4_c (key field text : ByteArray) (n : Int) : PCall Try.prog G 78 [.agg [iC 4, sC key, sC field, sC text, iC n]] (iV (checkCommand 4 key field text n)) := by
  refine pcallc mixed Try.func78 ac_value_CheckCommand ?_
  repeat' (first | (with_reducible first | refine Cn (fun h => ?_) fun h => ?_ | refine And.intro ?_ ?_ | refine wR ?_ | exact wr _ _ | refine wa ?_ | apply awp_join | refine q (field_c _) ?_ | refine qd (field_c _) ?_ | refine qz (field_c _) ?_ | refine q (text_c _) ?_ | refine qd (text_c _) ?_ | refine qz (text_c _) ?_ | refine q (count_c _) ?_ | refine qd (count_c _) ?_ | refine qz (count_c _) ?_) | (with_reducible refine CallZ.z ?_) | simp -dsimp [go_sem])
  all_goals (try simp_all [checkCommand, formOk])
  all_goals (intros; first | (simp_all; done) | trace_state)
theorem check5_c (key field text : ByteArray) (n : Int) : PCall Try.prog G 78 [.agg [iC 5, sC key, sC field, sC text, iC n]] (iV (checkCommand 5 key field text n)) := by
  refine pcallc mixed Try.func78 ac_value_CheckCommand ?_
  repeat' (first | (with_reducible first | refine Cn (fun h => ?_) fun h => ?_ | refine And.intro ?_ ?_ | refine wR ?_ | exact wr _ _ | refine wa ?_ | apply awp_join | refine q (field_c _) ?_ | refine qd (field_c _) ?_ | refine qz (field_c _) ?_ | refine q (text_c _) ?_ | refine qd (text_c _) ?_ | refine qz (text_c _) ?_ | refine q (count_c _) ?_ | refine qd (count_c _) ?_ | refine qz (count_c _) ?_) | (with_reducible refine CallZ.z ?_) | simp -dsimp [go_sem])
  all_goals (try simp_all [checkCommand, formOk])
  all_goals (intros; first | (simp_all; done) | trace_state)
theorem check6_c (key field text : ByteArray) (n : Int) : PCall Try.prog G 78 [.agg [iC 6, sC key, sC field, sC text, iC n]] (iV (checkCommand 6 key field text n)) := by
  refine pcallc mixed Try.func78 ac_value_CheckCommand ?_
  repeat' (first | (with_reducible first | refine Cn (fun h => ?_) fun h => ?_ | refine And.intro ?_ ?_ | refine wR ?_ | exact wr _ _ | refine wa ?_ | apply awp_join | refine q (field_c _) ?_ | refine qd (field_c _) ?_ | refine qz (field_c _) ?_ | refine q (text_c _) ?_ | refine qd (text_c _) ?_ | refine qz (text_c _) ?_ | refine q (count_c _) ?_ | refine qd (count_c _) ?_ | refine qz (count_c _) ?_) | (with_reducible refine CallZ.z ?_) | simp -dsimp [go_sem])
  all_goals (try simp_all [checkCommand, formOk])
  all_goals (intros; first | (simp_all; done) | trace_state)
theorem check7_c (key field text : ByteArray) (n : Int) : PCall Try.prog G 78 [.agg [iC 7, sC key, sC field, sC text, iC n]] (iV (checkCommand 7 key field text n)) := by
  refine pcallc mixed Try.func78 ac_value_CheckCommand ?_
  repeat' (first | (with_reducible first | refine Cn (fun h => ?_) fun h => ?_ | refine And.intro ?_ ?_ | refine wR ?_ | exact wr _ _ | refine wa ?_ | apply awp_join | refine q (field_c _) ?_ | refine qd (field_c _) ?_ | refine qz (field_c _) ?_ | refine q (text_c _) ?_ | refine qd (text_c _) ?_ | refine qz (text_c _) ?_ | refine q (count_c _) ?_ | refine qd (count_c _) ?_ | refine qz (count_c _) ?_) | (with_reducible refine CallZ.z ?_) | simp -dsimp [go_sem])
  all_goals (try simp_all [checkCommand, formOk])
  all_goals (intros; first | (simp_all; done) | trace_state)
theorem check8_c (key field text : ByteArray) (n : Int) : PCall Try.prog G 78 [.agg [iC 8, sC key, sC field, sC text, iC n]] (iV (checkCommand 8 key field text n)) := by
  refine pcallc mixed Try.func78 ac_value_CheckCommand ?_
  repeat' (first | (with_reducible first | refine Cn (fun h => ?_) fun h => ?_ | refine And.intro ?_ ?_ | refine wR ?_ | exact wr _ _ | refine wa ?_ | apply awp_join | refine q (field_c _) ?_ | refine qd (field_c _) ?_ | refine qz (field_c _) ?_ | refine q (text_c _) ?_ | refine qd (text_c _) ?_ | refine qz (text_c _) ?_ | refine q (count_c _) ?_ | refine qd (count_c _) ?_ | refine qz (count_c _) ?_) | (with_reducible refine CallZ.z ?_) | simp -dsimp [go_sem])
  all_goals (try simp_all [checkCommand, formOk])
  all_goals (intros; first | (simp_all; done) | trace_state)
theorem check9_c (key field text : ByteArray) (n : Int) : PCall Try.prog G 78 [.agg [iC 9, sC key, sC field, sC text, iC n]] (iV (checkCommand 9 key field text n)) := by
  refine pcallc mixed Try.func78 ac_value_CheckCommand ?_
  repeat' (first | (with_reducible first | refine Cn (fun h => ?_) fun h => ?_ | refine And.intro ?_ ?_ | refine wR ?_ | exact wr _ _ | refine wa ?_ | apply awp_join | refine q (field_c _) ?_ | refine qd (field_c _) ?_ | refine qz (field_c _) ?_ | refine q (text_c _) ?_ | refine qd (text_c _) ?_ | refine qz (text_c _) ?_ | refine q (count_c _) ?_ | refine qd (count_c _) ?_ | refine qz (count_c _) ?_) | (with_reducible refine CallZ.z ?_) | simp -dsimp [go_sem])
  all_goals (try simp_all [checkCommand, formOk])
  all_goals (intros; first | (simp_all; done) | trace_state)
theorem check10_c (key field text : ByteArray) (n : Int) : PCall Try.prog G 78 [.agg [iC 10, sC key, sC field, sC text, iC n]] (iV (checkCommand 10 key field text n)) := by
  refine pcallc mixed Try.func78 ac_value_CheckCommand ?_
  repeat' (first | (with_reducible first | refine Cn (fun h => ?_) fun h => ?_ | refine And.intro ?_ ?_ | refine wR ?_ | exact wr _ _ | refine wa ?_ | apply awp_join | refine q (field_c _) ?_ | refine qd (field_c _) ?_ | refine qz (field_c _) ?_ | refine q (text_c _) ?_ | refine qd (text_c _) ?_ | refine qz (text_c _) ?_ | refine q (count_c _) ?_ | refine qd (count_c _) ?_ | refine qz (count_c _) ?_) | (with_reducible refine CallZ.z ?_) | simp -dsimp [go_sem])
  all_goals (try simp_all [checkCommand, formOk])
  all_goals (intros; first | (simp_all; done) | trace_state)
theorem check11_c (key field text : ByteArray) (n : Int) : PCall Try.prog G 78 [.agg [iC 11, sC key, sC field, sC text, iC n]] (iV (checkCommand 11 key field text n)) := by
  refine pcallc mixed Try.func78 ac_value_CheckCommand ?_
  repeat' (first | (with_reducible first | refine Cn (fun h => ?_) fun h => ?_ | refine And.intro ?_ ?_ | refine wR ?_ | exact wr _ _ | refine wa ?_ | apply awp_join | refine q (field_c _) ?_ | refine qd (field_c _) ?_ | refine qz (field_c _) ?_ | refine q (text_c _) ?_ | refine qd (text_c _) ?_ | refine qz (text_c _) ?_ | refine q (count_c _) ?_ | refine qd (count_c _) ?_ | refine qz (count_c _) ?_) | (with_reducible refine CallZ.z ?_) | simp -dsimp [go_sem])
  all_goals (try simp_all [checkCommand, formOk])
  all_goals (intros; first | (simp_all; done) | trace_state)
theorem check12_c (key field text : ByteArray) (n : Int) : PCall Try.prog G 78 [.agg [iC 12, sC key, sC field, sC text, iC n]] (iV (checkCommand 12 key field text n)) := by
  refine pcallc mixed Try.func78 ac_value_CheckCommand ?_
  repeat' (first | (with_reducible first | refine Cn (fun h => ?_) fun h => ?_ | refine And.intro ?_ ?_ | refine wR ?_ | exact wr _ _ | refine wa ?_ | apply awp_join | refine q (field_c _) ?_ | refine qd (field_c _) ?_ | refine qz (field_c _) ?_ | refine q (text_c _) ?_ | refine qd (text_c _) ?_ | refine qz (text_c _) ?_ | refine q (count_c _) ?_ | refine qd (count_c _) ?_ | refine qz (count_c _) ?_) | (with_reducible refine CallZ.z ?_) | simp -dsimp [go_sem])
  all_goals (try simp_all [checkCommand, formOk])
  all_goals (intros; first | (simp_all; done) | trace_state)
theorem check13_c (key field text : ByteArray) (n : Int) : PCall Try.prog G 78 [.agg [iC 13, sC key, sC field, sC text, iC n]] (iV (checkCommand 13 key field text n)) := by
  refine pcallc mixed Try.func78 ac_value_CheckCommand ?_
  repeat' (first | (with_reducible first | refine Cn (fun h => ?_) fun h => ?_ | refine And.intro ?_ ?_ | refine wR ?_ | exact wr _ _ | refine wa ?_ | apply awp_join | refine q (field_c _) ?_ | refine qd (field_c _) ?_ | refine qz (field_c _) ?_ | refine q (text_c _) ?_ | refine qd (text_c _) ?_ | refine qz (text_c _) ?_ | refine q (count_c _) ?_ | refine qd (count_c _) ?_ | refine qz (count_c _) ?_) | (with_reducible refine CallZ.z ?_) | simp -dsimp [go_sem])
  all_goals (try simp_all [checkCommand, formOk])
  all_goals (intros; first | (simp_all; done) | trace_state)
theorem check14_c (key field text : ByteArray) (n : Int) : PCall Try.prog G 78 [.agg [iC 14, sC key, sC field, sC text, iC n]] (iV (checkCommand 14 key field text n)) := by
  refine pcallc mixed Try.func78 ac_value_CheckCommand ?_
  repeat' (first | (with_reducible first | refine Cn (fun h => ?_) fun h => ?_ | refine And.intro ?_ ?_ | refine wR ?_ | exact wr _ _ | refine wa ?_ | apply awp_join | refine q (field_c _) ?_ | refine qd (field_c _) ?_ | refine qz (field_c _) ?_ | refine q (text_c _) ?_ | refine qd (text_c _) ?_ | refine qz (text_c _) ?_ | refine q (count_c _) ?_ | refine qd (count_c _) ?_ | refine qz (count_c _) ?_) | (with_reducible refine CallZ.z ?_) | simp -dsimp [go_sem])
  all_goals (try simp_all [checkCommand, formOk])
  all_goals (intros; first | (simp_all; done) | trace_state)
theorem check15_c (key field text : ByteArray) (n : Int) : PCall Try.prog G 78 [.agg [iC 15, sC key, sC field, sC text, iC n]] (iV (checkCommand 15 key field text n)) := by
  refine pcallc mixed Try.func78 ac_value_CheckCommand ?_
  repeat' (first | (with_reducible first | refine Cn (fun h => ?_) fun h => ?_ | refine And.intro ?_ ?_ | refine wR ?_ | exact wr _ _ | refine wa ?_ | apply awp_join | refine q (field_c _) ?_ | refine qd (field_c _) ?_ | refine qz (field_c _) ?_ | refine q (text_c _) ?_ | refine qd (text_c _) ?_ | refine qz (text_c _) ?_ | refine q (count_c _) ?_ | refine qd (count_c _) ?_ | refine qz (count_c _) ?_) | (with_reducible refine CallZ.z ?_) | simp -dsimp [go_sem])
  all_goals (try simp_all [checkCommand, formOk])
  all_goals (intros; first | (simp_all; done) | trace_state)
theorem check16_c (key field text : ByteArray) (n : Int) : PCall Try.prog G 78 [.agg [iC 16, sC key, sC field, sC text, iC n]] (iV (checkCommand 16 key field text n)) := by
  refine pcallc mixed Try.func78 ac_value_CheckCommand ?_
  repeat' (first | (with_reducible first | refine Cn (fun h => ?_) fun h => ?_ | refine And.intro ?_ ?_ | refine wR ?_ | exact wr _ _ | refine wa ?_ | apply awp_join | refine q (field_c _) ?_ | refine qd (field_c _) ?_ | refine qz (field_c _) ?_ | refine q (text_c _) ?_ | refine qd (text_c _) ?_ | refine qz (text_c _) ?_ | refine q (count_c _) ?_ | refine qd (count_c _) ?_ | refine qz (count_c _) ?_) | (with_reducible refine CallZ.z ?_) | simp -dsimp [go_sem])
  all_goals (try simp_all [checkCommand, formOk])
  all_goals (intros; first | (simp_all; done) | trace_state)
theorem check17_c (key field text : ByteArray) (n : Int) : PCall Try.prog G 78 [.agg [iC 17, sC key, sC field, sC text, iC n]] (iV (checkCommand 17 key field text n)) := by
  refine pcallc mixed Try.func78 ac_value_CheckCommand ?_
  repeat' (first | (with_reducible first | refine Cn (fun h => ?_) fun h => ?_ | refine And.intro ?_ ?_ | refine wR ?_ | exact wr _ _ | refine wa ?_ | apply awp_join | refine q (field_c _) ?_ | refine qd (field_c _) ?_ | refine qz (field_c _) ?_ | refine q (text_c _) ?_ | refine qd (text_c _) ?_ | refine qz (text_c _) ?_ | refine q (count_c _) ?_ | refine qd (count_c _) ?_ | refine qz (count_c _) ?_) | (with_reducible refine CallZ.z ?_) | simp -dsimp [go_sem])
  all_goals (try simp_all [checkCommand, formOk])
  all_goals (intros; first | (simp_all; done) | trace_state)
theorem check18_c (key field text : ByteArray) (n : Int) : PCall Try.prog G 78 [.agg [iC 18, sC key, sC field, sC text, iC n]] (iV (checkCommand 18 key field text n)) := by
  refine pcallc mixed Try.func78 ac_value_CheckCommand ?_
  repeat' (first | (with_reducible first | refine Cn (fun h => ?_) fun h => ?_ | refine And.intro ?_ ?_ | refine wR ?_ | exact wr _ _ | refine wa ?_ | apply awp_join | refine q (field_c _) ?_ | refine qd (field_c _) ?_ | refine qz (field_c _) ?_ | refine q (text_c _) ?_ | refine qd (text_c _) ?_ | refine qz (text_c _) ?_ | refine q (count_c _) ?_ | refine qd (count_c _) ?_ | refine qz (count_c _) ?_) | (with_reducible refine CallZ.z ?_) | simp -dsimp [go_sem])
  all_goals (try simp_all [checkCommand, formOk])
  all_goals (intros; first | (simp_all; done) | trace_state)
theorem check19_c (key field text : ByteArray) (n : Int) : PCall Try.prog G 78 [.agg [iC 19, sC key, sC field, sC text, iC n]] (iV (checkCommand 19 key field text n)) := by
  refine pcallc mixed Try.func78 ac_value_CheckCommand ?_
  repeat' (first | (with_reducible first | refine Cn (fun h => ?_) fun h => ?_ | refine And.intro ?_ ?_ | refine wR ?_ | exact wr _ _ | refine wa ?_ | apply awp_join | refine q (field_c _) ?_ | refine qd (field_c _) ?_ | refine qz (field_c _) ?_ | refine q (text_c _) ?_ | refine qd (text_c _) ?_ | refine qz (text_c _) ?_ | refine q (count_c _) ?_ | refine qd (count_c _) ?_ | refine qz (count_c _) ?_) | (with_reducible refine CallZ.z ?_) | simp -dsimp [go_sem])
  all_goals (try simp_all [checkCommand, formOk])
  all_goals (intros; first | (simp_all; done) | trace_state)
theorem check20_c (key field text : ByteArray) (n : Int) : PCall Try.prog G 78 [.agg [iC 20, sC key, sC field, sC text, iC n]] (iV (checkCommand 20 key field text n)) := by
  refine pcallc mixed Try.func78 ac_value_CheckCommand ?_
  repeat' (first | (with_reducible first | refine Cn (fun h => ?_) fun h => ?_ | refine And.intro ?_ ?_ | refine wR ?_ | exact wr _ _ | refine wa ?_ | apply awp_join | refine q (field_c _) ?_ | refine qd (field_c _) ?_ | refine qz (field_c _) ?_ | refine q (text_c _) ?_ | refine qd (text_c _) ?_ | refine qz (text_c _) ?_ | refine q (count_c _) ?_ | refine qd (count_c _) ?_ | refine qz (count_c _) ?_) | (with_reducible refine CallZ.z ?_) | simp -dsimp [go_sem])
  all_goals (try simp_all [checkCommand, formOk])
  all_goals (intros; first | (simp_all; done) | trace_state)
theorem check21_c (key field text : ByteArray) (n : Int) : PCall Try.prog G 78 [.agg [iC 21, sC key, sC field, sC text, iC n]] (iV (checkCommand 21 key field text n)) := by
  refine pcallc mixed Try.func78 ac_value_CheckCommand ?_
  repeat' (first | (with_reducible first | refine Cn (fun h => ?_) fun h => ?_ | refine And.intro ?_ ?_ | refine wR ?_ | exact wr _ _ | refine wa ?_ | apply awp_join | refine q (field_c _) ?_ | refine qd (field_c _) ?_ | refine qz (field_c _) ?_ | refine q (text_c _) ?_ | refine qd (text_c _) ?_ | refine qz (text_c _) ?_ | refine q (count_c _) ?_ | refine qd (count_c _) ?_ | refine qz (count_c _) ?_) | (with_reducible refine CallZ.z ?_) | simp -dsimp [go_sem])
  all_goals (try simp_all [checkCommand, formOk])
  all_goals (intros; first | (simp_all; done) | trace_state)
theorem check22_c (key field text : ByteArray) (n : Int) : PCall Try.prog G 78 [.agg [iC 22, sC key, sC field, sC text, iC n]] (iV (checkCommand 22 key field text n)) := by
  refine pcallc mixed Try.func78 ac_value_CheckCommand ?_
  repeat' (first | (with_reducible first | refine Cn (fun h => ?_) fun h => ?_ | refine And.intro ?_ ?_ | refine wR ?_ | exact wr _ _ | refine wa ?_ | apply awp_join | refine q (field_c _) ?_ | refine qd (field_c _) ?_ | refine qz (field_c _) ?_ | refine q (text_c _) ?_ | refine qd (text_c _) ?_ | refine qz (text_c _) ?_ | refine q (count_c _) ?_ | refine qd (count_c _) ?_ | refine qz (count_c _) ?_) | (with_reducible refine CallZ.z ?_) | simp -dsimp [go_sem])
  all_goals (try simp_all [checkCommand, formOk])
  all_goals (intros; first | (simp_all; done) | trace_state)
theorem check_c (k : Int) (key field text : ByteArray) (n : Int) : PCall Try.prog G 78 [.agg [iC k, sC key, sC field, sC text, iC n]] (iV (checkCommand k key field text n)) := by
  have hk : k < 1 ∨ 22 < k ∨ k = 1 ∨ k = 2 ∨ k = 3 ∨ k = 4 ∨ k = 5 ∨ k = 6 ∨ k = 7 ∨ k = 8 ∨ k = 9 ∨ k = 10 ∨ k = 11 ∨ k = 12 ∨ k = 13 ∨ k = 14 ∨ k = 15 ∨ k = 16 ∨ k = 17 ∨ k = 18 ∨ k = 19 ∨ k = 20 ∨ k = 21 ∨ k = 22 := by omega
  rcases hk with hk | hk | rfl | rfl | rfl | rfl | rfl | rfl | rfl | rfl | rfl | rfl | rfl | rfl | rfl | rfl | rfl | rfl | rfl | rfl | rfl | rfl | rfl | rfl
  · refine pcallc mixed Try.func78 ac_value_CheckCommand ?_
    simp -dsimp [go_sem, hk, checkCommand]
  · refine pcallc mixed Try.func78 ac_value_CheckCommand ?_
    have h' : ¬ k < 1 := by omega
    simp -dsimp [go_sem, hk, h', checkCommand]
  · exact check1_c key field text n
  · exact check2_c key field text n
  · exact check3_c key field text n
  · exact check4_c key field text n
  · exact check5_c key field text n
  · exact check6_c key field text n
  · exact check7_c key field text n
  · exact check8_c key field text n
  · exact check9_c key field text n
  · exact check10_c key field text n
  · exact check11_c key field text n
  · exact check12_c key field text n
  · exact check13_c key field text n
  · exact check14_c key field text n
  · exact check15_c key field text n
  · exact check16_c key field text n
  · exact check17_c key field text n
  · exact check18_c key field text n
  · exact check19_c key field text n
  · exact check20_c key field text n
  · exact check21_c key field text n
  · exact check22_c key field text n
end Go.Proofs.Ytpdcfljbabpakaa

/- The function rostrumkeep.CommandSize answers true, whatever its arguments. -/
set_option linter.unusedVariables false
set_option linter.unusedSimpArgs false
set_option maxRecDepth 100000
set_option maxHeartbeats 8000000
namespace Go.Proofs.Ytpdcfljbabpakaa
open Go Go.RowKit Go.Proofs.AE
variable {G : Nat → AV}
theorem bytesOf_zero : ∀ n : Nat, bytesOf (List.replicate n [V.lit (.int .u8 0)]) = some (List.replicate n 0)
  | 0 => rfl
  | n + 1 => by simp [List.replicate_succ, bytesOf, AE.byteOf, bytesOf_zero n]
theorem zsize {k : Int} (h : 0 ≤ k) : (((⟨Array.replicate k.toNat 0⟩ : ByteArray).size : Nat) : Int) = k := by
  have : (⟨Array.replicate k.toNat 0⟩ : ByteArray).size = k.toNat := by show (Array.replicate k.toNat (0 : UInt8)).size = _; simp
  rw [this]; omega
theorem empty_ok : okText (⟨#[]⟩ : ByteArray) = true ∧ okField (⟨#[107]⟩ : ByteArray) = true := by decide
end Go.Proofs.Ytpdcfljbabpakaa

/- What the searches of a slice answer. -/
set_option linter.unusedVariables false
set_option linter.unusedSimpArgs false
set_option maxRecDepth 100000
set_option maxHeartbeats 8000000
namespace Go.Proofs.Ytpdcfljbabpakaa
open Go Go.RowKit Go.Proofs.AE
variable {G : Nat → AV}
abbrev strRows (l : List ByteArray) : List (List V) := l.map fun s => [V.lit (.string s)]
def firstIdx (p : ByteArray → Bool) : Nat → List ByteArray → Int
  | _, [] => -1
  | i, s :: l => if p s then (i : Int) else firstIdx p (i + 1) l
theorem firstIdx_drop (p : ByteArray → Bool) (l : List ByteArray) {i : Nat} (h : i < l.length) : firstIdx p i (l.drop i) = if p l[i] then (i : Int) else firstIdx p (i + 1) (l.drop (i + 1)) := by
  rw [List.drop_eq_getElem_cons h]; rfl
theorem indexFunc_c (g : Nat) (p : ByteArray → Bool) (l : List ByteArray) (hl : (l.length : Int) ≤ 9223372036854775807) (he : enters Try.prog g = true) (hp : ∀ s, PCall Try.prog G g [sV s] (bV (p s))) :
    PCall Try.prog G 76 [.one (.v (.sl (strRows l))), .fn g [] []] (iV (firstIdx p 0 l)) := by
  refine pcallc mixed Try.func76 ac_slices_IndexFunc_string ?_
  simp -dsimp [go_sem]
  refine awp_loop (fun i : Nat => ⟨[(0, .one (.v (.sl (strRows l)))), (1, .fn g [] []), (7, iV l.length), (8, iV i)], G, []⟩) (fun i => i ≤ l.length ∧ firstIdx p 0 l = firstIdx p i (l.drop i)) (fun i => l.length - i) 0 (weak_auto ?_) ⟨Nat.zero_le _, rfl⟩ ?_
  · simp -dsimp [go_sem]
  · rintro i ⟨hi, hx⟩
    rw [hx]
    simp -dsimp [go_sem]
    refine Cnd.intro (fun h => ?_) (fun h => ?_)
    · have hlt : i < l.length := by simpa using h
      have hgi : (strRows l)[i]? = some [V.lit (.string l[i])] := by simp [strRows, hlt]
      simp -dsimp [go_sem, hgi, he]
      refine CallZ.l ((hp l[i]).kf rfl ?_)
      simp -dsimp [go_sem]
      rw [firstIdx_drop p l hlt]
      refine Cnd.intro (fun h => ?_) (fun h => ?_)
      · simp -dsimp [go_sem, h]
      · simp -dsimp [go_sem]
        have h' : p l[i] = false := by simpa using h
        rw [h']
        refine Again.auto (i + 1) ?_ ⟨hlt, rfl⟩ (by omega)
        rw [IntWalk.i64_in _ (by omega)]
        simp -dsimp [go_sem]
    · have hge : ¬ i < l.length := by simpa using h
      have : i = l.length := by omega
      simp -dsimp [go_sem, firstIdx, this]
theorem firstIdx_ge (p : ByteArray → Bool) : ∀ (l : List ByteArray) (i : Nat), (decide (0 ≤ firstIdx p i l)) = l.any p
  | [], _ => by simp [firstIdx]
  | s :: l, i => by
    simp only [firstIdx, List.any_cons]
    by_cases h : p s = true
    · simp [h]
    · have h' : p s = false := by simpa using h
      simpa [h'] using firstIdx_ge p l (i + 1)
theorem containsFunc_c (g : Nat) (p : ByteArray → Bool) (l : List ByteArray) (hl : (l.length : Int) ≤ 9223372036854775807) (he : enters Try.prog g = true) (hp : ∀ s, PCall Try.prog G g [sV s] (bV (p s))) :
    PCall Try.prog G 52 [.one (.v (.sl (strRows l))), .fn g [] []] (bV (l.any p)) := by
  refine pcallc mixed Try.func52 ac_slices_ContainsFunc_string ?_
  simp -dsimp [go_sem]
  refine CallZ.l ((indexFunc_c g p l hl he hp).kf rfl ?_)
  rw [← firstIdx_ge p l 0]
  simp -dsimp [go_sem]
theorem longText_c (s : ByteArray) : PCall Try.prog G 53 [sV s] (bV (decide (20 < (s.size : Int)))) := by
  refine pcallc mixed Try.func53 ac_client_CheckReply_1 ?_
  simp -dsimp [go_sem]
/-- What CheckReply answers. -/
def checkReply (code : Int) (text : ByteArray) (n : Int) (l : List ByteArray) : Int :=
  if decide (code < 0) then 3 else if decide (13 < code) then 3 else if decide (20 < (text.size : Int)) then 1 else if decide (20 < (l.length : Int)) then 1
  else if l.any (fun s => decide (20 < (s.size : Int))) then 1 else if decide (n < -1099511627776) then 2 else if decide (1099511627776 < n) then 2 else 0
theorem checkReply_c (code : Int) (text : ByteArray) (n : Int) (l : List ByteArray) : PCall Try.prog G 41 [.agg [iC code, sC text, iC n, .v (.sl (strRows l))]] (iV (checkReply code text n l)) := by
  refine pcallc mixed Try.func41 ac_client_CheckReply ?_
  repeat' (first | (with_reducible first | refine Cn (fun h => ?_) fun h => ?_ | refine And.intro ?_ ?_ | refine wR ?_ | exact wr _ _ | refine wa ?_ | apply awp_join | refine q1 (by exact containsFunc_c _ _ l (by simp_all <;> omega) en53 longText_c) ?_ | refine q1d (by exact containsFunc_c _ _ l (by simp_all <;> omega) en53 longText_c) ?_) | (with_reducible refine CallZ.z ?_) | simp -dsimp [go_sem])
  all_goals ((try simp only [Bool.not_true, Bool.not_false] at *); simp only [checkReply, *]; rfl)
theorem checkReply0_c (code : Int) (text : ByteArray) (n : Int) : PCall Try.prog G 41 [.agg [iC code, sC text, iC n, .nil]] (iV (checkReply code text n [])) := (checkReply_c code text n []).at (by simp [go_sem])
end Go.Proofs.Ytpdcfljbabpakaa

/- What the library's functions on slices answer: comparing, inserting, deleting. -/
set_option linter.unusedVariables false
set_option linter.unusedSimpArgs false
set_option maxRecDepth 100000
set_option maxHeartbeats 8000000
namespace Go.Proofs.Ytpdcfljbabpakaa
open Go Go.RowKit Go.Proofs.AE
variable {G : Nat → AV}

/-- Two strings compared. -/
def cmpB (a b : ByteArray) : Int := Lib.compareBytes a.data.toList b.data.toList
theorem compareString_w (a b : ByteArray) (w : World) :
    Calls Try.prog 83 #[.string a, .string b] w fun e w' => e = .returned (.int .i64 (cmpB a b)) ∧ w' = w := by
  go_enter Try.func83, Try.ntmps83
  go_wp2
  rw [run_callFunc_extern Try.func86 (by kernel_rfl) (by kernel_rfl) (by kernel_rfl) (e := Extern.BytealgCompare.compare) (by kernel_rfl), Lib.run_compareString]
  simp only [Result.andThen]
  rw [Oper.upon_value]
  go_wp2
  go_ret
  exact ⟨rfl, rfl⟩
theorem compareString_c (a b : ByteArray) : PCall Try.prog G 83 [sV a, sV b] (iV (cmpB a b)) := by
  intro w ok μ xs hr hg hargs
  cases hargs with | cons h1 ht =>
  cases ht with | cons h2 ht =>
  cases ht
  have e1 := lit_rel h1
  have e2 := lit_rel h2
  subst e1; subst e2
  refine (compareString_w a b w).mono ?_
  rintro e w' ⟨rfl, rfl⟩
  exact ⟨_, _, _, ok, μ, rfl, Step.refl hr, avlit rfl, List.eq_nil_of_length_eq_zero (by rw [← hr.len]; exact (by have := hr.len; simpa using this)), rfl⟩
theorem stringsCompare_c (a b : ByteArray) : PCall Try.prog G 74 [sV a, sV b] (iV (cmpB a b)) := by
  refine pcallc mixed Try.func74 ac_strings_Compare ?_
  repeat' (first | (with_reducible first | refine Cn (fun h => ?_) fun h => ?_ | refine And.intro ?_ ?_ | refine wR ?_ | exact wr _ _ | refine wa ?_ | apply awp_join | refine q (compareString_c _ _) ?_ | refine qd (compareString_c _ _) ?_ | refine qz (compareString_c _ _) ?_) | (with_reducible refine CallZ.z ?_) | simp -dsimp [go_sem])
theorem isNaNi_c (a : Int) : PCall Try.prog G 85 [iV a] (bV false) := by
  refine pcallc mixed Try.func85 ac_cmp_isNaN_int ?_
  simp -dsimp [go_sem]
/-- Two numbers compared. -/
def cmpI (a b : Int) : Int := if a < b then -1 else if a > b then 1 else 0
theorem cmpInt_c (a b : Int) : PCall Try.prog G 82 [iV a, iV b] (iV (cmpI a b)) := by
  refine pcallc mixed Try.func82 ac_cmp_Compare_int ?_
  unfold cmpI
  repeat' (first | (with_reducible first | refine Cn (fun h => ?_) fun h => ?_ | refine And.intro ?_ ?_ | refine wR ?_ | exact wr _ _ | refine wa ?_ | apply awp_join | refine q (isNaNi_c _) ?_ | refine qd (isNaNi_c _) ?_ | refine qz (isNaNi_c _) ?_) | (with_reducible refine CallZ.z ?_) | simp -dsimp [go_sem])
  all_goals (simp at *)
  all_goals (repeat' split) <;> first | rfl | omega
def insAt {α : Type} (l : List α) (i : Nat) (x : α) : List α := l.take i ++ x :: l.drop i
def delAt {α : Type} (l : List α) (i : Nat) : List α := l.take i ++ l.drop (i + 1)
end Go.Proofs.Ytpdcfljbabpakaa

/- What the value layer's searches and checks answer. -/
set_option linter.unusedVariables false
set_option linter.unusedSimpArgs false
set_option maxRecDepth 100000
set_option maxHeartbeats 8000000
namespace Go.Proofs.Ytpdcfljbabpakaa
open Go Go.RowKit Go.Proofs.AE
variable {G : Nat → AV}
abbrev Pr := ByteArray × ByteArray
abbrev Sc := ByteArray × Int
abbrev row_api_Pair (p : Pr) : List V := [V.lit (.string p.1), V.lit (.string p.2)]
abbrev row_api_Score (p : Sc) : List V := [V.lit (.string p.1), V.lit (.int .i64 p.2)]
abbrev row_string (p : ByteArray) : List V := [V.lit (.string p)]
abbrev arg_api_Pair (p : Pr) : AV := .agg [sC p.1, sC p.2]
abbrev arg_api_Score (p : Sc) : AV := .agg [sC p.1, iC p.2]
abbrev arg_string (p : ByteArray) : AV := sV p
def firstI {α : Type} (p : α → Bool) : Nat → List α → Int
  | _, [] => -1
  | i, s :: l => if p s then (i : Int) else firstI p (i + 1) l
theorem firstI_drop {α : Type} (p : α → Bool) (l : List α) {i : Nat} (h : i < l.length) : firstI p i (l.drop i) = if p l[i] then (i : Int) else firstI p (i + 1) (l.drop (i + 1)) := by
  rw [List.drop_eq_getElem_cons h]; rfl
theorem firstI_ge {α : Type} (p : α → Bool) : ∀ (l : List α) (i : Nat), (decide (0 ≤ firstI p i l)) = l.any p
  | [], _ => by simp [firstI]
  | s :: l, i => by
    simp only [firstI, List.any_cons]
    by_cases h : p s = true
    · simp [h]
    · have h' : p s = false := by simpa using h
      simpa [h'] using firstI_ge p l (i + 1)
/-- Do they rise? -/
def rising {α : Type} (cmp : α → α → Int) : List α → Bool
  | a :: b :: r => decide (cmp a b < 0) && rising cmp (b :: r)
  | _ => true
theorem rising_drop {α : Type} (cmp : α → α → Int) (l : List α) {i : Nat} (h : i + 1 < l.length) : rising cmp (l.drop i) = (decide (cmp l[i] l[i + 1] < 0) && rising cmp (l.drop (i + 1))) := by
  rw [List.drop_eq_getElem_cons (by omega : i < l.length), List.drop_eq_getElem_cons h]; rfl
theorem indexFunc_api_Pair (g : Nat) (p : Pr → Bool) (l : List Pr) (hl : (l.length : Int) ≤ 9223372036854775807) (he : enters Try.prog g = true) (hp : ∀ s, PCall Try.prog G g [arg_api_Pair s] (bV (p s))) :
    PCall Try.prog G 79 [.one (.v (.sl (l.map row_api_Pair))), .fn g [] []] (iV (firstI p 0 l)) := by
  refine pcallc mixed Try.func79 ac_slices_IndexFunc_api_Pair ?_
  simp -dsimp [go_sem]
  refine awp_loop (fun i : Nat => ⟨[(0, .one (.v (.sl (l.map row_api_Pair)))), (1, .fn g [] []), (7, iV l.length), (8, iV i)], G, []⟩) (fun i => i ≤ l.length ∧ firstI p 0 l = firstI p i (l.drop i)) (fun i => l.length - i) 0 (weak_auto ?_) ⟨Nat.zero_le _, rfl⟩ ?_
  · simp -dsimp [go_sem]
  · rintro i ⟨hi, hx⟩
    rw [hx]
    simp -dsimp [go_sem]
    refine Cnd.intro (fun h => ?_) (fun h => ?_)
    · have hlt : i < l.length := by simpa using h
      have hgi : (l.map row_api_Pair)[i]? = some (row_api_Pair l[i]) := by simp [hlt]
      simp -dsimp [go_sem, hgi, he]
      refine CallZ.l ((hp l[i]).kf rfl ?_)
      simp -dsimp [go_sem]
      rw [firstI_drop p l hlt]
      refine Cnd.intro (fun h => ?_) (fun h => ?_)
      · simp -dsimp [go_sem, h]
      · simp -dsimp [go_sem]
        have h' : p l[i] = false := by simpa using h
        rw [h']
        refine Again.auto (i + 1) ?_ ⟨hlt, rfl⟩ (by omega)
        rw [IntWalk.i64_in _ (by omega)]
        simp -dsimp [go_sem]
    · have hge : ¬ i < l.length := by simpa using h
      have : i = l.length := by omega
      simp -dsimp [go_sem, firstI, this]
theorem containsFunc_api_Pair (g : Nat) (p : Pr → Bool) (l : List Pr) (hl : (l.length : Int) ≤ 9223372036854775807) (he : enters Try.prog g = true) (hp : ∀ s, PCall Try.prog G g [arg_api_Pair s] (bV (p s))) :
    PCall Try.prog G 62 [.one (.v (.sl (l.map row_api_Pair))), .fn g [] []] (bV (l.any p)) := by
  refine pcallc mixed Try.func62 ac_slices_ContainsFunc_api_Pair ?_
  simp -dsimp [go_sem]
  refine CallZ.l ((indexFunc_api_Pair g p l hl he hp).kf rfl ?_)
  rw [← firstI_ge p l 0]
  simp -dsimp [go_sem]
theorem indexFunc_api_Score (g : Nat) (p : Sc → Bool) (l : List Sc) (hl : (l.length : Int) ≤ 9223372036854775807) (he : enters Try.prog g = true) (hp : ∀ s, PCall Try.prog G g [arg_api_Score s] (bV (p s))) :
    PCall Try.prog G 80 [.one (.v (.sl (l.map row_api_Score))), .fn g [] []] (iV (firstI p 0 l)) := by
  refine pcallc mixed Try.func80 ac_slices_IndexFunc_api_Score ?_
  simp -dsimp [go_sem]
  refine awp_loop (fun i : Nat => ⟨[(0, .one (.v (.sl (l.map row_api_Score)))), (1, .fn g [] []), (7, iV l.length), (8, iV i)], G, []⟩) (fun i => i ≤ l.length ∧ firstI p 0 l = firstI p i (l.drop i)) (fun i => l.length - i) 0 (weak_auto ?_) ⟨Nat.zero_le _, rfl⟩ ?_
  · simp -dsimp [go_sem]
  · rintro i ⟨hi, hx⟩
    rw [hx]
    simp -dsimp [go_sem]
    refine Cnd.intro (fun h => ?_) (fun h => ?_)
    · have hlt : i < l.length := by simpa using h
      have hgi : (l.map row_api_Score)[i]? = some (row_api_Score l[i]) := by simp [hlt]
      simp -dsimp [go_sem, hgi, he]
      refine CallZ.l ((hp l[i]).kf rfl ?_)
      simp -dsimp [go_sem]
      rw [firstI_drop p l hlt]
      refine Cnd.intro (fun h => ?_) (fun h => ?_)
      · simp -dsimp [go_sem, h]
      · simp -dsimp [go_sem]
        have h' : p l[i] = false := by simpa using h
        rw [h']
        refine Again.auto (i + 1) ?_ ⟨hlt, rfl⟩ (by omega)
        rw [IntWalk.i64_in _ (by omega)]
        simp -dsimp [go_sem]
    · have hge : ¬ i < l.length := by simpa using h
      have : i = l.length := by omega
      simp -dsimp [go_sem, firstI, this]
theorem containsFunc_api_Score (g : Nat) (p : Sc → Bool) (l : List Sc) (hl : (l.length : Int) ≤ 9223372036854775807) (he : enters Try.prog g = true) (hp : ∀ s, PCall Try.prog G g [arg_api_Score s] (bV (p s))) :
    PCall Try.prog G 65 [.one (.v (.sl (l.map row_api_Score))), .fn g [] []] (bV (l.any p)) := by
  refine pcallc mixed Try.func65 ac_slices_ContainsFunc_api_Score ?_
  simp -dsimp [go_sem]
  refine CallZ.l ((indexFunc_api_Score g p l hl he hp).kf rfl ?_)
  rw [← firstI_ge p l 0]
  simp -dsimp [go_sem]
theorem rising_api_Pair (g : Nat) (cmp : Pr → Pr → Int) (l : List Pr) (hl : (l.length : Int) ≤ 9223372036854775806) (he : enters Try.prog g = true) (hp : ∀ a b, PCall Try.prog G g [arg_api_Pair a, arg_api_Pair b] (iV (cmp a b))) :
    PCall Try.prog G 69 [.one (.v (.sl (l.map row_api_Pair))), .fn g [] []] (bV (rising cmp l)) := by
  refine pcallc mixed Try.func69 ac_value_rising_api_Pair ?_
  simp -dsimp [go_sem]
  refine awp_loop (fun i : Nat => ⟨[(0, .one (.v (.sl (l.map row_api_Pair)))), (1, .fn g [] []), (5, iV ((i : Int) + 1))], G, []⟩) (fun i => (i = 0 ∨ i < l.length) ∧ rising cmp l = rising cmp (l.drop i)) (fun i => l.length - i) 0 (weak_auto ?_) ⟨.inl rfl, rfl⟩ ?_
  · simp -dsimp [go_sem]
  · rintro i ⟨hi, hx⟩
    rw [hx]
    have w1 : i < l.length → IntKind.i64.wrap (i : Int) = i := fun _ => IntWalk.i64_in _ (by omega)
    have w2 : IntKind.i64.wrap ((i : Int) + 1 + 1) = (i : Int) + 1 + 1 := IntWalk.i64_in _ (by omega)
    simp -dsimp [go_sem]
    refine Cnd.intro (fun h => ?_) (fun h => ?_)
    · have hlt : i + 1 < l.length := by simp at h; omega
      have w1 := w1 (by omega)
      obtain ⟨a, ha⟩ : ∃ a, l[i] = a := ⟨_, rfl⟩
      obtain ⟨b, hb⟩ : ∃ b, l[i + 1] = b := ⟨_, rfl⟩
      have hgi : l[i]? = some a := by rw [List.getElem?_eq_getElem (by omega), ha]
      have hgj : l[i + 1]? = some b := by rw [List.getElem?_eq_getElem hlt, hb]
      have t1 : ((i : Int) + 1).toNat = i + 1 := by omega
      rw [rising_drop cmp l hlt, ha, hb]
      have hc := hp a b
      repeat' (first | (with_reducible first | refine Cn (fun h => ?_) fun h => ?_ | refine And.intro ?_ ?_ | refine wR ?_ | exact wr _ _ | refine wa ?_ | apply awp_join | refine q hc ?_ | refine qd hc ?_ | refine qz hc ?_) | (with_reducible refine CallZ.z ?_) | simp -dsimp [go_sem, hgi, hgj, he, w1, w2, t1])
      all_goals first
        | omega
        | (intro h'; simp at h; omega)
        | (with_reducible refine Again.auto (i + 1) ?_ ?_ ?_)
      all_goals first
        | (simp -dsimp [go_sem]; done)
        | (refine ⟨.inr hlt, ?_⟩; simp at h; simp [h]; done)
        | (show l.length - (i + 1) < l.length - i; omega)
    · have hge : ¬ i + 1 < l.length := by simp at h; omega
      have : rising cmp (l.drop i) = true := by
        cases hd : l.drop i with
        | nil => rfl
        | cons a r =>
          cases r with
          | nil => rfl
          | cons b r =>
            have := congrArg List.length hd
            simp at this; omega
      simp -dsimp [go_sem, this]
theorem rising_api_Score (g : Nat) (cmp : Sc → Sc → Int) (l : List Sc) (hl : (l.length : Int) ≤ 9223372036854775806) (he : enters Try.prog g = true) (hp : ∀ a b, PCall Try.prog G g [arg_api_Score a, arg_api_Score b] (iV (cmp a b))) :
    PCall Try.prog G 71 [.one (.v (.sl (l.map row_api_Score))), .fn g [] []] (bV (rising cmp l)) := by
  refine pcallc mixed Try.func71 ac_value_rising_api_Score ?_
  simp -dsimp [go_sem]
  refine awp_loop (fun i : Nat => ⟨[(0, .one (.v (.sl (l.map row_api_Score)))), (1, .fn g [] []), (5, iV ((i : Int) + 1))], G, []⟩) (fun i => (i = 0 ∨ i < l.length) ∧ rising cmp l = rising cmp (l.drop i)) (fun i => l.length - i) 0 (weak_auto ?_) ⟨.inl rfl, rfl⟩ ?_
  · simp -dsimp [go_sem]
  · rintro i ⟨hi, hx⟩
    rw [hx]
    have w1 : i < l.length → IntKind.i64.wrap (i : Int) = i := fun _ => IntWalk.i64_in _ (by omega)
    have w2 : IntKind.i64.wrap ((i : Int) + 1 + 1) = (i : Int) + 1 + 1 := IntWalk.i64_in _ (by omega)
    simp -dsimp [go_sem]
    refine Cnd.intro (fun h => ?_) (fun h => ?_)
    · have hlt : i + 1 < l.length := by simp at h; omega
      have w1 := w1 (by omega)
      obtain ⟨a, ha⟩ : ∃ a, l[i] = a := ⟨_, rfl⟩
      obtain ⟨b, hb⟩ : ∃ b, l[i + 1] = b := ⟨_, rfl⟩
      have hgi : l[i]? = some a := by rw [List.getElem?_eq_getElem (by omega), ha]
      have hgj : l[i + 1]? = some b := by rw [List.getElem?_eq_getElem hlt, hb]
      have t1 : ((i : Int) + 1).toNat = i + 1 := by omega
      rw [rising_drop cmp l hlt, ha, hb]
      have hc := hp a b
      repeat' (first | (with_reducible first | refine Cn (fun h => ?_) fun h => ?_ | refine And.intro ?_ ?_ | refine wR ?_ | exact wr _ _ | refine wa ?_ | apply awp_join | refine q hc ?_ | refine qd hc ?_ | refine qz hc ?_) | (with_reducible refine CallZ.z ?_) | simp -dsimp [go_sem, hgi, hgj, he, w1, w2, t1])
      all_goals first
        | omega
        | (intro h'; simp at h; omega)
        | (with_reducible refine Again.auto (i + 1) ?_ ?_ ?_)
      all_goals first
        | (simp -dsimp [go_sem]; done)
        | (refine ⟨.inr hlt, ?_⟩; simp at h; simp [h]; done)
        | (show l.length - (i + 1) < l.length - i; omega)
    · have hge : ¬ i + 1 < l.length := by simp at h; omega
      have : rising cmp (l.drop i) = true := by
        cases hd : l.drop i with
        | nil => rfl
        | cons a r =>
          cases r with
          | nil => rfl
          | cons b r =>
            have := congrArg List.length hd
            simp at this; omega
      simp -dsimp [go_sem, this]
theorem rising_string (g : Nat) (cmp : ByteArray → ByteArray → Int) (l : List ByteArray) (hl : (l.length : Int) ≤ 9223372036854775806) (he : enters Try.prog g = true) (hp : ∀ a b, PCall Try.prog G g [arg_string a, arg_string b] (iV (cmp a b))) :
    PCall Try.prog G 73 [.one (.v (.sl (l.map row_string))), .fn g [] []] (bV (rising cmp l)) := by
  refine pcallc mixed Try.func73 ac_value_rising_string ?_
  simp -dsimp [go_sem]
  refine awp_loop (fun i : Nat => ⟨[(0, .one (.v (.sl (l.map row_string)))), (1, .fn g [] []), (5, iV ((i : Int) + 1))], G, []⟩) (fun i => (i = 0 ∨ i < l.length) ∧ rising cmp l = rising cmp (l.drop i)) (fun i => l.length - i) 0 (weak_auto ?_) ⟨.inl rfl, rfl⟩ ?_
  · simp -dsimp [go_sem]
  · rintro i ⟨hi, hx⟩
    rw [hx]
    have w1 : i < l.length → IntKind.i64.wrap (i : Int) = i := fun _ => IntWalk.i64_in _ (by omega)
    have w2 : IntKind.i64.wrap ((i : Int) + 1 + 1) = (i : Int) + 1 + 1 := IntWalk.i64_in _ (by omega)
    simp -dsimp [go_sem]
    refine Cnd.intro (fun h => ?_) (fun h => ?_)
    · have hlt : i + 1 < l.length := by simp at h; omega
      have w1 := w1 (by omega)
      obtain ⟨a, ha⟩ : ∃ a, l[i] = a := ⟨_, rfl⟩
      obtain ⟨b, hb⟩ : ∃ b, l[i + 1] = b := ⟨_, rfl⟩
      have hgi : l[i]? = some a := by rw [List.getElem?_eq_getElem (by omega), ha]
      have hgj : l[i + 1]? = some b := by rw [List.getElem?_eq_getElem hlt, hb]
      have t1 : ((i : Int) + 1).toNat = i + 1 := by omega
      rw [rising_drop cmp l hlt, ha, hb]
      have hc := hp a b
      repeat' (first | (with_reducible first | refine Cn (fun h => ?_) fun h => ?_ | refine And.intro ?_ ?_ | refine wR ?_ | exact wr _ _ | refine wa ?_ | apply awp_join | refine q hc ?_ | refine qd hc ?_ | refine qz hc ?_) | (with_reducible refine CallZ.z ?_) | simp -dsimp [go_sem, hgi, hgj, he, w1, w2, t1])
      all_goals first
        | omega
        | (intro h'; simp at h; omega)
        | (with_reducible refine Again.auto (i + 1) ?_ ?_ ?_)
      all_goals first
        | (simp -dsimp [go_sem]; done)
        | (refine ⟨.inr hlt, ?_⟩; simp at h; simp [h]; done)
        | (show l.length - (i + 1) < l.length - i; omega)
    · have hge : ¬ i + 1 < l.length := by simp at h; omega
      have : rising cmp (l.drop i) = true := by
        cases hd : l.drop i with
        | nil => rfl
        | cons a r =>
          cases r with
          | nil => rfl
          | cons b r =>
            have := congrArg List.length hd
            simp at this; omega
      simp -dsimp [go_sem, this]
end Go.Proofs.Ytpdcfljbabpakaa

/- What Check answers of a value. -/
set_option linter.unusedVariables false
set_option linter.unusedSimpArgs false
set_option maxRecDepth 100000
set_option maxHeartbeats 8000000
namespace Go.Proofs.Ytpdcfljbabpakaa
open Go Go.RowKit Go.Proofs.AE
variable {G : Nat → AV}
abbrev bF (a b : Pr) : Int := cmpB a.1 b.1
def bS (a b : Sc) : Int := if cmpI a.2 b.2 = 0 then cmpB a.1 b.1 else cmpI a.2 b.2
theorem byField_c (a b : Pr) : PCall Try.prog G 70 [arg_api_Pair a, arg_api_Pair b] (iV (bF a b)) := by
  refine pcallc mixed Try.func70 ac_value_byField ?_
  repeat' (first | (with_reducible first | refine Cn (fun h => ?_) fun h => ?_ | refine And.intro ?_ ?_ | refine wR ?_ | exact wr _ _ | refine wa ?_ | apply awp_join | refine q (stringsCompare_c _ _) ?_ | refine qd (stringsCompare_c _ _) ?_ | refine qz (stringsCompare_c _ _) ?_) | (with_reducible refine CallZ.z ?_) | simp -dsimp [go_sem])
theorem or2_c (a b : Int) : PCall Try.prog G 81 [.one (.v (.sl [[V.lit (.int .i64 a)], [V.lit (.int .i64 b)]]))] (iV (if a = 0 then b else a)) := by
  refine pcallc mixed Try.func81 ac_cmp_Or_int ?_
  simp -dsimp [go_sem]
  refine awp_loop (fun i : Nat => ⟨[(3, iV 0), (6, .one (.v (.sl [[V.lit (.int .i64 a)], [V.lit (.int .i64 b)]]))), (7, iV 2), (8, iV i)], G, []⟩) (fun i => i ≤ 2 ∧ (0 < i → a = 0) ∧ (1 < i → b = 0)) (fun i => 2 - i) 0 (weak_auto ?_) ⟨by omega, by omega, by omega⟩ ?_
  · simp -dsimp [go_sem]
  · rintro i ⟨h1, h2, h3⟩
    have hi : i = 0 ∨ i = 1 ∨ i = 2 := by omega
    rcases hi with rfl | rfl | rfl
    · by_cases h0 : a = 0
      · subst h0
        simp -dsimp [go_sem]
        refine Again.auto 1 ?_ (by simp) (by omega)
        rw [IntWalk.i64_in _ (by omega)]
        simp -dsimp [go_sem]
      · have h0' : (a != 0) = true := by simpa using h0
        simp -dsimp [go_sem, h0, h0']
    · have h0 := h2 (by omega)
      subst h0
      by_cases h0 : b = 0
      · subst h0
        simp -dsimp [go_sem]
        refine Again.auto 2 ?_ (by simp) (by omega)
        rw [IntWalk.i64_in _ (by omega)]
        simp -dsimp [go_sem]
      · have h0' : (b != 0) = true := by simpa using h0
        simp -dsimp [go_sem, h0, h0']
    · have h0 := h2 (by omega)
      have h0' := h3 (by omega)
      subst h0; subst h0'
      simp -dsimp [go_sem]
theorem byScore_c (a b : Sc) : PCall Try.prog G 72 [arg_api_Score a, arg_api_Score b] (iV (bS a b)) := by
  refine pcallc mixed Try.func72 ac_value_byScore ?_
  unfold bS
  repeat' (first | (with_reducible first | refine Cn (fun h => ?_) fun h => ?_ | refine And.intro ?_ ?_ | refine wR ?_ | exact wr _ _ | refine wa ?_ | apply awp_join | refine q (cmpInt_c _ _) ?_ | refine qd (cmpInt_c _ _) ?_ | refine qz (cmpInt_c _ _) ?_ | refine q (stringsCompare_c _ _) ?_ | refine qd (stringsCompare_c _ _) ?_ | refine qz (stringsCompare_c _ _) ?_ | refine q (or2_c _ _) ?_ | refine qd (or2_c _ _) ?_ | refine qz (or2_c _ _) ?_) | (with_reducible refine CallZ.z ?_) | simp -dsimp [go_sem])
/-! ### the place of a member -/
def rankOf (l : List Sc) (m : ByteArray) : Int := firstI (fun s => decide (s.1 = m)) 0 l
theorem rankFn_c (m : ByteArray) (s : Sc) : DetCall Try.prog G 84 1 [some (.box 9 [sC m])] [arg_api_Score s, .one (.ptr 0 0)] (bV (decide (s.1 = m))) [some (.box 9 [sC m])] := by
  refine gcallc mixed Try.func84 ac_value_rank_1 ?_
  repeat' (first | (with_reducible first | refine Cn (fun h => ?_) fun h => ?_ | refine And.intro ?_ ?_ | refine wR ?_ | exact wr _ _ | refine wa ?_ | apply awp_join) | (with_reducible refine CallZ.z ?_) | simp -dsimp [go_sem])
theorem indexRank_c (m : ByteArray) (l : List Sc) (hl : (l.length : Int) ≤ 9223372036854775807) : DetCall Try.prog G 80 1 [some (.box 9 [sC m])] [.one (.v (.sl (l.map row_api_Score))), .fn 84 [] [.ptr 0 0]] (iV (rankOf l m)) [some (.box 9 [sC m])] := by
  unfold rankOf
  generalize hp : (fun s : Sc => decide (s.1 = m)) = p
  have hpp : ∀ s : Sc, decide (s.1 = m) = p s := fun s => by rw [← hp]
  refine gcallc mixed Try.func80 ac_slices_IndexFunc_api_Score ?_
  simp -dsimp [go_sem]
  refine awp_loop (fun i : Nat => ⟨[(0, .one (.v (.sl (l.map row_api_Score)))), (1, .fn 84 [] [.ptr 0 0]), (7, iV l.length), (8, iV i)], G, [some (.box 9 [sC m])]⟩) (fun i => i ≤ l.length ∧ firstI p 0 l = firstI p i (l.drop i)) (fun i => l.length - i) 0 (weak_auto ?_) ⟨Nat.zero_le _, rfl⟩ ?_
  · simp -dsimp [go_sem]
  · rintro i ⟨hi, hx⟩
    rw [hx]
    simp -dsimp [go_sem]
    refine Cnd.intro (fun h => ?_) (fun h => ?_)
    · have hlt : i < l.length := by simpa using h
      obtain ⟨a, ha⟩ : ∃ a, l[i] = a := ⟨_, rfl⟩
      have hgi : l[i]? = some a := by rw [List.getElem?_eq_getElem (by omega), ha]
      have hc := rankFn_c (G := G) m a
      rw [hpp] at hc
      rw [firstI_drop p l hlt, ha]
      have w1 : IntKind.i64.wrap ((i : Int) + 1) = (i : Int) + 1 := IntWalk.i64_in _ (by omega)
      repeat' (first | (with_reducible first | refine Cn (fun h => ?_) fun h => ?_ | refine And.intro ?_ ?_ | refine wR ?_ | exact wr _ _ | refine wa ?_ | apply awp_join | refine qg hc ?_ | refine qgd hc ?_) | (with_reducible refine CallZ.z ?_) | simp -dsimp [go_sem, hgi, w1, en84])
      all_goals first
        | (with_reducible refine Again.auto (i + 1) ?_ ?_ ?_)
        | (simp_all; done)
        | skip
      all_goals first
        | (simp -dsimp [go_sem]; done)
        | (refine ⟨hlt, ?_⟩; simp_all; done)
        | (show l.length - (i + 1) < l.length - i; omega)
    · have hge : ¬ i < l.length := by simpa using h
      have : i = l.length := by omega
      simp -dsimp [go_sem, firstI, this]
theorem rank_c (m : ByteArray) (l : List Sc) (hl : (l.length : Int) ≤ 9223372036854775807) : PCall Try.prog G 75 [.one (.v (.sl (l.map row_api_Score))), sV m] (iV (rankOf l m)) := by
  refine pcallc mixed Try.func75 ac_value_rank ?_
  repeat' (first | (with_reducible first | refine Cn (fun h => ?_) fun h => ?_ | refine And.intro ?_ ?_ | refine wR ?_ | exact wr _ _ | refine wa ?_ | apply awp_join | refine qg (indexRank_c m l hl) ?_ | refine qgd (indexRank_c m l hl) ?_) | (with_reducible refine CallZ.z ?_) | simp -dsimp [go_sem])
/-! ### Check -/
structure Val where
  kind : Int
  text : ByteArray
  count : Int
  pairs : List Pr
  items : List ByteArray
  scores : List Sc
abbrev pR (l : List Pr) : List (List V) := l.map row_api_Pair
abbrev sR (l : List Sc) : List (List V) := l.map row_api_Score
def Val.c (v : Val) : List C := [iC v.kind, sC v.text, iC v.count, .v (.sl (pR v.pairs)), .v (.sl (strRows v.items)), .v (.sl (sR v.scores))]
def Val.els (v : Val) : Int := (v.pairs.length : Int) + v.items.length + v.scores.length
theorem elements_c (k n : Int) (t : ByteArray) (p i s : List (List V)) (h : p.length + i.length + s.length ≤ 1000000) : PCall Try.prog G 59 [.agg [iC k, sC t, iC n, .v (.sl p), .v (.sl i), .v (.sl s)]] (iV ((p.length + i.length + s.length : Nat) : Int)) := by
  have e1 : IntKind.i64.wrap ((p.length : Int) + i.length) = (p.length : Int) + i.length := IntWalk.i64_in _ (by omega)
  have e2 : IntKind.i64.wrap ((p.length : Int) + i.length + s.length) = (p.length : Int) + i.length + s.length := IntWalk.i64_in _ (by omega)
  refine pcallc mixed Try.func59 ac_value_elements ?_
  repeat' (first | (with_reducible first | refine Cn (fun h => ?_) fun h => ?_ | refine And.intro ?_ ?_ | refine wR ?_ | exact wr _ _ | refine wa ?_ | apply awp_join) | (with_reducible refine CallZ.z ?_) | simp -dsimp [go_sem, e1, e2])
def longS (s : ByteArray) : Bool := !okText s
def badP (p : Pr) : Bool := !okField p.1 || !okText p.2
def longM (s : Sc) : Bool := !okText s.1
def farN (s : Sc) : Bool := !okCount s.2
theorem checkFn1_c (s : ByteArray) : PCall Try.prog G 61 [sV s] (bV (longS s)) := by
  refine pcallc mixed Try.func61 ac_value_Check_1 ?_
  unfold longS
  repeat' (first | (with_reducible first | refine Cn (fun h => ?_) fun h => ?_ | refine And.intro ?_ ?_ | refine wR ?_ | exact wr _ _ | refine wa ?_ | apply awp_join | refine q (text_c _) ?_ | refine qd (text_c _) ?_ | refine qz (text_c _) ?_) | (with_reducible refine CallZ.z ?_) | simp -dsimp [go_sem])
theorem checkFn2_c (p : Pr) : PCall Try.prog G 63 [arg_api_Pair p] (bV (badP p)) := by
  refine pcallc mixed Try.func63 ac_value_Check_2 ?_
  unfold badP
  repeat' (first | (with_reducible first | refine Cn (fun h => ?_) fun h => ?_ | refine And.intro ?_ ?_ | refine wR ?_ | exact wr _ _ | refine wa ?_ | apply awp_join | refine q (text_c _) ?_ | refine qd (text_c _) ?_ | refine qz (text_c _) ?_ | refine q (field_c _) ?_ | refine qd (field_c _) ?_ | refine qz (field_c _) ?_ | refine q (text_c _) ?_ | refine qd (text_c _) ?_ | refine qz (text_c _) ?_ | refine q (field_c _) ?_ | refine qd (field_c _) ?_ | refine qz (field_c _) ?_) | (with_reducible refine CallZ.z ?_) | simp -dsimp [go_sem])
  all_goals simp_all
theorem checkFn3_c (s : Sc) : PCall Try.prog G 66 [arg_api_Score s] (bV (longM s)) := by
  refine pcallc mixed Try.func66 ac_value_Check_3 ?_
  unfold longM
  repeat' (first | (with_reducible first | refine Cn (fun h => ?_) fun h => ?_ | refine And.intro ?_ ?_ | refine wR ?_ | exact wr _ _ | refine wa ?_ | apply awp_join | refine q (text_c _) ?_ | refine qd (text_c _) ?_ | refine qz (text_c _) ?_) | (with_reducible refine CallZ.z ?_) | simp -dsimp [go_sem])
theorem checkFn4_c (s : Sc) : PCall Try.prog G 68 [arg_api_Score s] (bV (farN s)) := by
  refine pcallc mixed Try.func68 ac_value_Check_4 ?_
  unfold farN
  repeat' (first | (with_reducible first | refine Cn (fun h => ?_) fun h => ?_ | refine And.intro ?_ ?_ | refine wR ?_ | exact wr _ _ | refine wa ?_ | apply awp_join | refine q (count_c _) ?_ | refine qd (count_c _) ?_ | refine qz (count_c _) ?_) | (with_reducible refine CallZ.z ?_) | simp -dsimp [go_sem])
/-- Each member once. -/
def onceB (l : List Sc) (i : Nat) : Bool := (List.range i).all fun j => match l[j]? with | some s => decide (rankOf (l.take j) s.1 < 0) | none => true
theorem onceB_succ (l : List Sc) {i : Nat} {s : Sc} (h : l[i]? = some s) : onceB l (i + 1) = (onceB l i && decide (rankOf (l.take i) s.1 < 0)) := by
  unfold onceB
  rw [List.range_succ, List.all_append]
  simp [h]
def Val.bad (v : Val) : Bool := (v.kind != 1 && decide (v.text ≠ ⟨#[]⟩)) || (v.kind != 2 && decide (v.count ≠ 0)) || decide (0 < (if v.kind = 3 then 0 else (v.pairs.length : Int)) + (if v.kind = 4 ∨ v.kind = 5 then 0 else (v.items.length : Int)) + (if v.kind = 6 then 0 else (v.scores.length : Int)))
def Val.ord (v : Val) : Bool := rising bF v.pairs && rising bS v.scores && (decide (v.kind ≠ 5) || rising cmpB v.items)
def Val.order (v : Val) : Bool := v.ord && onceB v.scores v.scores.length
theorem ul_s (l : List Sc) : UL 2 (sR l) := by
  intro r hr
  obtain ⟨y, _, rfl⟩ := List.mem_map.1 hr
  rfl
def checkV (v : Val) : Int :=
  if v.kind < 1 then 3 else if 6 < v.kind then 3 else if v.bad = true then 8
  else if 3 ≤ v.kind ∧ (v.els < 1 ∨ 20 < v.els) then 1
  else if (!okText v.text || v.items.any longS) = true then 1
  else if v.pairs.any badP = true then 1
  else if v.scores.any longM = true then 1
  else if (!okCount v.count || v.scores.any farN) = true then 2
  else if v.order = true then 0 else 10
def Val.Small (v : Val) : Prop := v.pairs.length ≤ 1000 ∧ v.items.length ≤ 1000 ∧ v.scores.length ≤ 1000
end Go.Proofs.Ytpdcfljbabpakaa

/- What the binary searches answer. -/
set_option linter.unusedVariables false
set_option linter.unusedSimpArgs false
set_option maxRecDepth 100000
set_option maxHeartbeats 8000000
namespace Go.Proofs.Ytpdcfljbabpakaa
open Go Go.RowKit Go.Proofs.AE
variable {G : Nat → AV}
def at_api_Pair (cmp : Pr → Pr → Int) (l : List Pr) (t : Pr) (i : Nat) : Bool := match l[i]? with | some a => cmp a t == 0 | none => false
def at_api_Score (cmp : Sc → Sc → Int) (l : List Sc) (t : Sc) (i : Nat) : Bool := match l[i]? with | some a => cmp a t == 0 | none => false
abbrev lessB (a b : ByteArray) : Bool := Op.bytesLess a.data.toList b.data.toList
def at_string (l : List ByteArray) (t : ByteArray) (i : Nat) : Bool := match l[i]? with | some a => decide (a = t) | none => false
end Go.Proofs.Ytpdcfljbabpakaa

/- What inserting and deleting answer. -/
set_option linter.unusedVariables false
set_option linter.unusedSimpArgs false
set_option maxRecDepth 100000
set_option maxHeartbeats 8000000
namespace Go.Proofs.Ytpdcfljbabpakaa
open Go Go.RowKit Go.Proofs.AE
variable {G : Nat → AV}
theorem wr_shift {rows : List (List V)} {i : Nat} (hi : i < rows.length) : wrRows rows (rows.drop i) (i + 1) = rows.take (i + 1) ++ rows.drop i := by
  unfold wrRows
  have h : rows.drop (i + 1 + (rows.drop i).length) = [] := List.drop_eq_nil_of_le (by rw [List.length_drop]; omega)
  rw [h, List.append_nil]
theorem wr_ins {rows : List (List V)} {x : List V} {i : Nat} (hi : i < rows.length) : wrRows (rows.take (i + 1) ++ rows.drop i) [x] i = insAt rows i x := by
  unfold wrRows insAt
  have h1 : (rows.take (i + 1)).length = i + 1 := by rw [List.length_take]; omega
  rw [List.take_append_of_le_length (by omega), List.take_take, Nat.min_eq_left (by omega), List.length_singleton, List.drop_left' h1]
  simp
theorem ins_len {rows : List (List V)} {x : List V} {i : Nat} (hi : i ≤ rows.length) : (insAt rows i x).length = rows.length + 1 := by
  unfold insAt
  simp only [List.length_append, List.length_cons, List.length_take, List.length_drop]; omega
theorem wr_fresh {rows : List (List V)} {x z : List V} {i D : Nat} (hi : i < rows.length) (hD : i + D = rows.length + 1) : wrRows (wrRows (rows.take i ++ List.replicate D z) [x] i) (rows.drop i) (i + 1) = insAt rows i x := by
  have h1 : (rows.take i).length = i := by rw [List.length_take]; omega
  have e1 : wrRows (rows.take i ++ List.replicate D z) [x] i = (rows.take i ++ [x]) ++ List.replicate (D - 1) z := by
    have h3 : (rows.take i).drop (i + 1) = [] := List.drop_eq_nil_of_le (by omega)
    unfold wrRows
    rw [List.take_left' h1, List.length_singleton, List.drop_append, h3, h1, show i + 1 - i = 1 by omega, List.nil_append, List.drop_replicate]
  rw [e1]
  have h2 : (rows.take i ++ [x]).length = i + 1 := by rw [List.length_append, h1]; rfl
  have h4 : (rows.take i ++ [x] ++ List.replicate (D - 1) z).drop (i + 1 + (rows.drop i).length) = [] := List.drop_eq_nil_of_le (by rw [List.length_append, h2, List.length_replicate, List.length_drop]; omega)
  unfold wrRows insAt
  rw [List.take_left' h2, h4]
  simp
theorem wr_length {rows new : List (List V)} {i : Nat} (h1 : i ≤ rows.length) (h2 : i + new.length ≤ rows.length) : (wrRows rows new i).length = rows.length := by
  rw [wr_len h1]; omega
theorem ul_one {k : Nat} {x : List V} (h : x.length = k) : UL k [x] := by
  intro r hr
  simp at hr
  subst hr
  exact h
theorem i64_nat {n : Nat} (h : n ≤ 9223372036854775807) : IntKind.i64.wrap (n : Int) = n := IntWalk.i64_in _ (by omega)
theorem wr_del {rows : List (List V)} {i m : Nat} (hi : i < rows.length) (hm : m = rows.length - (i + 1)) : wrRows rows ((rows.drop (i + 1)).take m) i = delAt rows i ++ rows.drop (rows.length - 1) := by
  have h1 : (rows.drop (i + 1)).take m = rows.drop (i + 1) := List.take_of_length_le (by rw [List.length_drop]; omega)
  unfold wrRows delAt
  rw [h1, List.length_drop, show i + (rows.length - (i + 1)) = rows.length - 1 by omega]
theorem del_len {rows : List (List V)} {i : Nat} (hi : i < rows.length) : (delAt rows i).length = rows.length - 1 := by
  unfold delAt
  simp only [List.length_append, List.length_take, List.length_drop]; omega
theorem wr_end {a b z : List (List V)} (h : z.length = b.length) : wrRows (a ++ b) z a.length = a ++ z := by
  unfold wrRows
  rw [List.take_left' rfl, List.drop_append, List.drop_eq_nil_of_le (by omega), List.drop_eq_nil_of_le (by omega)]
  simp
end Go.Proofs.Ytpdcfljbabpakaa

/- What commands make of a hash. -/
set_option linter.unusedVariables false
set_option linter.unusedSimpArgs false
set_option maxRecDepth 100000
set_option maxHeartbeats 8000000
namespace Go.Proofs.Ytpdcfljbabpakaa
open Go Go.RowKit Go.Proofs.AE
variable {G : Nat → AV}
structure Cmd where
  kind : Int
  key : ByteArray
  field : ByteArray
  text : ByteArray
  n : Int
def Cmd.c (c : Cmd) : List C := [iC c.kind, sC c.key, sC c.field, sC c.text, iC c.n]
structure Rep where
  code : Int
  text : ByteArray
  n : Int
  list : List ByteArray
def Rep.c (r : Rep) : List C := [iC r.code, sC r.text, iC r.n, .v (.sl (strRows r.list))]
def toldR (n : Int) : Rep := ⟨0, ⟨#[]⟩, n, []⟩
def failR (e : Int) : Rep := ⟨e, ⟨#[]⟩, 0, []⟩
def textR (t : ByteArray) : Rep := ⟨0, t, 0, []⟩
def flagN (b : Bool) : Int := if b then 1 else 0
/-- How many stand ahead. -/
def plc {α : Type} (lt : α → Bool) (l : List α) : Nat := (l.takeWhile lt).length
theorem plc_le {α : Type} (lt : α → Bool) (l : List α) : plc lt l ≤ l.length := (List.takeWhile_prefix lt).length_le
theorem plc_lt {α : Type} (lt : α → Bool) : ∀ (l : List α) (j : Nat) (a : α), l[j]? = some a → j < plc lt l → lt a = true
  | [], j, a, h, _ => by simp at h
  | x :: l, j, a, h, hj => by
    unfold plc at hj
    rw [List.takeWhile_cons] at hj
    cases hx : lt x with
    | false => rw [hx] at hj; simp at hj
    | true =>
      rw [hx] at hj
      cases j with
      | zero => simp at h; subst h; exact hx
      | succ j => exact plc_lt lt l j a (by simpa using h) (by simpa [plc] using hj)
theorem rising_tail {α : Type} {cmp : α → α → Int} {x : α} {l : List α} (h : rising cmp (x :: l) = true) : rising cmp l = true := by
  cases l with
  | nil => rfl
  | cons y l => simp only [rising, Bool.and_eq_true] at h; exact h.2
theorem rising_head {α : Type} {cmp : α → α → Int} (tr : ∀ a b c, cmp a b < 0 → cmp b c < 0 → cmp a c < 0) : ∀ {l : List α} {x : α}, rising cmp (x :: l) = true → ∀ y ∈ l, cmp x y < 0
  | [], _, _, y, hy => by simp at hy
  | z :: l, x, h, y, hy => by
    have h' := h
    simp only [rising, Bool.and_eq_true, decide_eq_true_eq] at h'
    rcases List.mem_cons.1 hy with rfl | hy
    · exact h'.1
    · exact tr _ _ _ h'.1 (rising_head tr h'.2 y hy)
theorem plc_ge {α : Type} {cmp : α → α → Int} (lt : α → Bool) (tr : ∀ a b c, cmp a b < 0 → cmp b c < 0 → cmp a c < 0) (hlt : ∀ a b, cmp a b < 0 → lt b = true → lt a = true) : ∀ (l : List α), rising cmp l = true → ∀ (j : Nat) (a : α), l[j]? = some a → plc lt l ≤ j → lt a = false
  | [], _, j, a, h, _ => by simp at h
  | x :: l, hr, j, a, h, hj => by
    unfold plc at hj
    rw [List.takeWhile_cons] at hj
    cases hx : lt x with
    | true =>
      rw [hx] at hj
      cases j with
      | zero => simp at hj
      | succ j => exact plc_ge lt tr hlt l (rising_tail hr) j a (by simpa using h) (by simpa [plc] using hj)
    | false =>
      cases j with
      | zero => simp at h; subst h; exact hx
      | succ j =>
        have ha : a ∈ l := List.mem_of_getElem? (by simpa using h)
        cases hA : lt a with
        | false => rfl
        | true => rw [hlt x a (rising_head tr hr a ha) hA] at hx; cases hx
/-! ### a hash -/
def hashAt (ps : List Pr) (f : ByteArray) : Nat := plc (fun p => decide (cmpB p.1 f < 0)) ps
def hashIn (ps : List Pr) (f : ByteArray) : Bool := at_api_Pair bF ps (f, ⟨#[]⟩) (hashAt ps f)
def hashV (ps : List Pr) (c : Cmd) : List Pr × Rep :=
  let i := hashAt ps c.field
  let there := hashIn ps c.field
  if c.kind = 4 then
    if there then (ps.set i ((ps[i]?.getD (c.field, c.text)).1, c.text), toldR 0)
    else if ps.length = 20 then (ps, failR 6)
    else (insAt ps i (c.field, c.text), toldR 1)
  else if c.kind = 5 then
    if there then (ps, textR (ps[i]?.getD (c.field, c.text)).2) else (ps, failR 5)
  else if there then (delAt ps i, toldR 1) else (ps, toldR 0)
theorem ul_p (l : List Pr) : UL 2 (pR l) := by
  intro r hr
  obtain ⟨y, _, rfl⟩ := List.mem_map.1 hr
  rfl
theorem ul_i (l : List ByteArray) : UL 1 (strRows l) := by
  intro r hr
  obtain ⟨y, _, rfl⟩ := List.mem_map.1 hr
  rfl
theorem map_ins {α β : Type} (f : α → β) (l : List α) (i : Nat) (x : α) : insAt (l.map f) i (f x) = (insAt l i x).map f := by simp [insAt]
theorem map_del {α β : Type} (f : α → β) (l : List α) (i : Nat) : delAt (l.map f) i = (delAt l i).map f := by simp [delAt]
abbrev ownHp (k : Int) (t : ByteArray) (n : Int) (p i s : List (List V)) : Hp := [some (.box 77 [iC k, sC t, iC n, .ar 1, .ar 2, .ar 3]), some (.arr 106 2 p), some (.arr 9 1 i), some (.arr 108 2 s)]
end Go.Proofs.Ytpdcfljbabpakaa

/- What commands make of a list and of a set. -/
set_option linter.unusedVariables false
set_option linter.unusedSimpArgs false
set_option maxRecDepth 100000
set_option maxHeartbeats 8000000
namespace Go.Proofs.Ytpdcfljbabpakaa
open Go Go.RowKit Go.Proofs.AE
variable {G : Nat → AV}
/-! ### a list -/
def listV (l : List ByteArray) (c : Cmd) : List ByteArray × Rep :=
  if c.kind ≤ 8 ∧ l.length = 20 then (l, failR 6)
  else if c.kind = 7 then (l ++ [c.text], toldR (l.length + 1))
  else if c.kind = 8 then (c.text :: l, toldR (l.length + 1))
  else if c.kind = 9 then (l.take (l.length - 1), textR (l[l.length - 1]?.getD ⟨#[]⟩))
  else (l.drop 1, textR (l[0]?.getD ⟨#[]⟩))
/-- A value's box, as plain data. -/
abbrev plainHp (k : Int) (t : ByteArray) (n : Int) (p i s : List (List V)) : Hp := [some (.box 77 [iC k, sC t, iC n, .v (.sl p), .v (.sl i), .v (.sl s)])]
end Go.Proofs.Ytpdcfljbabpakaa

/- What commands make of a set and of ranks. -/
set_option linter.unusedVariables false
set_option linter.unusedSimpArgs false
set_option maxRecDepth 100000
set_option maxHeartbeats 8000000
namespace Go.Proofs.Ytpdcfljbabpakaa
open Go Go.RowKit Go.Proofs.AE
variable {G : Nat → AV}
/-! ### a set -/
def setAt (l : List ByteArray) (t : ByteArray) : Nat := plc (fun a => lessB a t) l
def setIn (l : List ByteArray) (t : ByteArray) : Bool := at_string l t (setAt l t)
def setV (l : List ByteArray) (c : Cmd) : List ByteArray × Rep :=
  let i := setAt l c.text
  let there := setIn l c.text
  if c.kind = 11 then
    if there then (l, toldR 0) else if l.length = 20 then (l, failR 6) else (insAt l i c.text, toldR 1)
  else if c.kind = 12 then (if there then (delAt l i, toldR 1) else (l, toldR 0))
  else (l, toldR (flagN there))
theorem firstI_lt {α : Type} (p : α → Bool) : ∀ (l : List α) (i : Nat), firstI p i l = -1 ∨ ∃ j : Nat, firstI p i l = ((i + j : Nat) : Int) ∧ j < l.length
  | [], _ => .inl rfl
  | x :: l, i => by
    unfold firstI
    split
    · exact .inr ⟨0, by simp, by simp⟩
    · rcases firstI_lt p l (i + 1) with h | ⟨j, h, hj⟩
      · exact .inl h
      · exact .inr ⟨j + 1, by rw [h]; congr 1; omega, by simpa using hj⟩
theorem rankOf_cases (l : List Sc) (m : ByteArray) : rankOf l m = -1 ∨ ∃ j : Nat, rankOf l m = j ∧ j < l.length := by
  have := firstI_lt (fun s : Sc => decide (s.1 = m)) l 0
  simpa [rankOf] using this
def rankCut (l : List Sc) (m : ByteArray) : List Sc := if rankOf l m < 0 then l else delAt l (rankOf l m).toNat
def rankAt (l : List Sc) (m : ByteArray) (n : Int) : Nat := plc (fun a => decide (bS a (m, n) < 0)) l
def ranksV (l : List Sc) (c : Cmd) : List Sc × Rep :=
  let i := rankOf l c.text
  if c.kind = 16 then (l, if i < 0 then failR 5 else toldR i)
  else if c.kind = 15 then (rankCut l c.text, toldR (if i < 0 then 0 else 1))
  else if i < 0 ∧ l.length = 20 then (l, failR 6)
  else (insAt (rankCut l c.text) (rankAt (rankCut l c.text) c.text c.n) (c.text, c.n), toldR (if i < 0 then 1 else 0))
end Go.Proofs.Ytpdcfljbabpakaa

/- What copying a value, and telling all its elements, answer. -/
set_option linter.unusedVariables false
set_option linter.unusedSimpArgs false
set_option maxRecDepth 100000
set_option maxHeartbeats 8000000
namespace Go.Proofs.Ytpdcfljbabpakaa
open Go Go.RowKit Go.Proofs.AE
variable {G : Nat → AV}
def allV (v : Val) : List ByteArray := v.items ++ v.pairs.map (·.1) ++ v.scores.map (·.1)
def accR {α : Type} (l : List ByteArray) (f : α → ByteArray) (p : List α) (i : Nat) : List (List V) := strRows (l ++ (p.take i).map f)
theorem accR_zero {α : Type} (l : List ByteArray) (f : α → ByteArray) (p : List α) : accR l f p 0 = strRows l := by simp [accR]
theorem accR_all {α : Type} (l : List ByteArray) (f : α → ByteArray) (p : List α) : accR l f p p.length = strRows (l ++ p.map f) := by simp [accR]
theorem accR_succ {α : Type} (l : List ByteArray) (f : α → ByteArray) (p : List α) {i : Nat} {a : α} (h : p[i]? = some a) : accR l f p (i + 1) = accR l f p i ++ [[V.lit (.string (f a))]] := by
  have htk : p.take (i + 1) = p.take i ++ [a] := by rw [List.take_add_one, h]; rfl
  unfold accR
  rw [htk]
  simp
theorem accR_len {α : Type} (l : List ByteArray) (f : α → ByteArray) (p : List α) {i : Nat} (h : i ≤ p.length) : (accR l f p i).length = l.length + i := by
  unfold accR
  simp
  omega
end Go.Proofs.Ytpdcfljbabpakaa

/- What do answers. -/
set_option linter.unusedVariables false
set_option linter.unusedSimpArgs false
set_option maxRecDepth 100000
set_option maxHeartbeats 8000000
namespace Go.Proofs.Ytpdcfljbabpakaa
open Go Go.RowKit Go.Proofs.AE
variable {G : Nat → AV}
def Val.plain (v : Val) : Hp := plainHp v.kind v.text v.count (pR v.pairs) (strRows v.items) (sR v.scores)
def Val.own (v : Val) : Hp := ownHp v.kind v.text v.count (pR v.pairs) (strRows v.items) (sR v.scores)
/-- What a command that may be makes of a value. -/
def doV (v : Val) (c : Cmd) : Val × Rep :=
  if c.kind = 1 then (⟨1, c.text, 0, [], [], []⟩, toldR 0)
  else if c.kind = 2 then (v, textR v.text)
  else if c.kind = 3 then (if okCount (v.count + c.n) = true then ({ v with count := v.count + c.n }, toldR (v.count + c.n)) else (v, failR 7))
  else if c.kind = 17 then (v, toldR v.els)
  else if c.kind = 18 then (v, ⟨0, ⟨#[]⟩, 0, allV v⟩)
  else if v.kind = 3 then ({ v with pairs := (hashV v.pairs c).1 }, (hashV v.pairs c).2)
  else if v.kind = 4 then ({ v with items := (listV v.items c).1 }, (listV v.items c).2)
  else if v.kind = 5 then ({ v with items := (setV v.items c).1 }, (setV v.items c).2)
  else ({ v with scores := (ranksV v.scores c).1 }, (ranksV v.scores c).2)
end Go.Proofs.Ytpdcfljbabpakaa

/- How byte strings and elements stand in their order, and how long things are. -/
set_option linter.unusedVariables false
set_option linter.unusedSimpArgs false
set_option maxRecDepth 100000
set_option maxHeartbeats 8000000
namespace Go.Proofs.Ytpdcfljbabpakaa
open Go Go.RowKit Go.Proofs.AE
theorem cb_self : ∀ a : List UInt8, Lib.compareBytes a a = 0
  | [] => rfl
  | x :: a => by simp [Lib.compareBytes, UInt8.lt_irrefl, cb_self a]
theorem u8_cases (x y : UInt8) : (x < y ∧ ¬ y < x ∧ x ≠ y) ∨ (y < x ∧ ¬ x < y ∧ x ≠ y) ∨ (x = y ∧ ¬ x < y ∧ ¬ y < x) := by
  simp only [UInt8.lt_iff_toNat_lt]
  rcases Nat.lt_trichotomy x.toNat y.toNat with h | h | h
  · exact .inl ⟨h, by omega, fun e => by subst e; omega⟩
  · exact .inr (.inr ⟨UInt8.toNat_inj.1 h, by omega, by omega⟩)
  · exact .inr (.inl ⟨h, by omega, fun e => by subst e; omega⟩)
theorem cb_eq : ∀ {a b : List UInt8}, Lib.compareBytes a b = 0 → a = b
  | [], [], _ => rfl
  | [], _ :: _, h => by simp [Lib.compareBytes] at h
  | _ :: _, [], h => by simp [Lib.compareBytes] at h
  | x :: a, y :: b, h => by
    unfold Lib.compareBytes at h
    rcases u8_cases x y with ⟨h1, h2, h3⟩ | ⟨h1, h2, h3⟩ | ⟨h1, h2, h3⟩
    · rw [if_pos h1] at h; simp at h
    · rw [if_neg h2, if_pos h1] at h; simp at h
    · rw [if_neg h2, if_neg h3] at h; rw [h1, cb_eq h]
theorem cb_anti : ∀ a b : List UInt8, Lib.compareBytes b a = - Lib.compareBytes a b
  | [], [] => rfl
  | [], _ :: _ => by simp [Lib.compareBytes]
  | _ :: _, [] => by simp [Lib.compareBytes]
  | x :: a, y :: b => by
    unfold Lib.compareBytes
    rcases u8_cases x y with ⟨h1, h2, h3⟩ | ⟨h1, h2, h3⟩ | ⟨h1, h2, h3⟩
    · rw [if_neg h2, if_pos h1, if_pos h1]; rfl
    · rw [if_pos h1, if_neg h2, if_pos h1]
    · rw [if_neg h3, if_neg h2, if_neg h2, if_neg h3]; exact cb_anti a b
theorem cb_tr : ∀ {a b c : List UInt8}, Lib.compareBytes a b < 0 → Lib.compareBytes b c < 0 → Lib.compareBytes a c < 0
  | _, [], [], _, h => by simp [Lib.compareBytes] at h
  | _, _ :: _, [], _, h => by simp [Lib.compareBytes] at h
  | [], _, _ :: _, _, _ => by simp [Lib.compareBytes]
  | _ :: _, [], _, h, _ => by simp [Lib.compareBytes] at h
  | x :: a, y :: b, z :: c, h1, h2 => by
    unfold Lib.compareBytes at h1 h2 ⊢
    rcases u8_cases x y with ⟨p1, p2, p3⟩ | ⟨p1, p2, p3⟩ | ⟨p1, p2, p3⟩
    · rcases u8_cases y z with ⟨q1, q2, q3⟩ | ⟨q1, q2, q3⟩ | ⟨q1, q2, q3⟩
      · have : x < z := by simp only [UInt8.lt_iff_toNat_lt] at *; omega
        rw [if_pos this]; decide
      · rw [if_neg q2, if_pos q1] at h2; simp at h2
      · subst q1; rw [if_pos p1]; decide
    · rw [if_neg p2, if_pos p1] at h1; simp at h1
    · subst p1
      rw [if_neg p2, if_neg p3] at h1
      rcases u8_cases x z with ⟨q1, q2, q3⟩ | ⟨q1, q2, q3⟩ | ⟨q1, q2, q3⟩
      · rw [if_pos q1]; decide
      · rw [if_neg q2, if_pos q1] at h2; simp at h2
      · rw [if_neg q2, if_neg q3] at h2 ⊢
        exact cb_tr h1 h2
theorem cb_less : ∀ a b : List UInt8, Op.bytesLess a b = decide (Lib.compareBytes a b < 0)
  | [], [] => by simp [Op.bytesLess, Lib.compareBytes]
  | [], _ :: _ => by simp [Op.bytesLess, Lib.compareBytes]
  | _ :: _, [] => by simp [Op.bytesLess, Lib.compareBytes]
  | x :: a, y :: b => by
    unfold Lib.compareBytes Op.bytesLess
    rcases u8_cases x y with ⟨h1, h2, h3⟩ | ⟨h1, h2, h3⟩ | ⟨h1, h2, h3⟩
    · simp [h1]
    · simp [h1, h2, h3]
    · subst h1
      simp [h2, cb_less a b]
theorem ba_ext {a b : ByteArray} (h : a.data.toList = b.data.toList) : a = b := by
  cases a; cases b
  congr 1
  exact Array.ext' h
theorem cmpB_self (a : ByteArray) : cmpB a a = 0 := cb_self _
theorem cmpB_eq {a b : ByteArray} (h : cmpB a b = 0) : a = b := ba_ext (cb_eq h)
theorem cmpB_zero {a b : ByteArray} : cmpB a b = 0 ↔ a = b := ⟨cmpB_eq, fun h => h ▸ cmpB_self a⟩
theorem cmpB_anti (a b : ByteArray) : cmpB b a = - cmpB a b := cb_anti _ _
theorem cmpB_tr (a b c : ByteArray) (h1 : cmpB a b < 0) (h2 : cmpB b c < 0) : cmpB a c < 0 := cb_tr h1 h2
theorem lessB_eq (a b : ByteArray) : lessB a b = decide (cmpB a b < 0) := cb_less _ _
theorem bF_tr (a b c : Pr) (h1 : bF a b < 0) (h2 : bF b c < 0) : bF a c < 0 := cmpB_tr _ _ _ h1 h2
theorem cmpI_lt (a b : Int) : cmpI a b < 0 ↔ a < b := by unfold cmpI; repeat' split <;> omega
theorem cmpI_zero (a b : Int) : cmpI a b = 0 ↔ a = b := by unfold cmpI; repeat' split <;> omega
theorem bS_lt (a b : Sc) : bS a b < 0 ↔ a.2 < b.2 ∨ (a.2 = b.2 ∧ cmpB a.1 b.1 < 0) := by
  unfold bS
  split
  · rename_i h
    rw [cmpI_zero] at h
    constructor
    · intro h'; exact .inr ⟨h, h'⟩
    · rintro (h' | ⟨_, h'⟩)
      · omega
      · exact h'
  · rename_i h
    rw [cmpI_zero] at h
    rw [cmpI_lt]
    constructor
    · intro h'; exact .inl h'
    · rintro (h' | ⟨h', _⟩)
      · exact h'
      · exact absurd h' h
theorem bS_tr (a b c : Sc) (h1 : bS a b < 0) (h2 : bS b c < 0) : bS a c < 0 := by
  rw [bS_lt] at *
  rcases h1 with h1 | ⟨h1, h1'⟩ <;> rcases h2 with h2 | ⟨h2, h2'⟩
  · exact .inl (by omega)
  · exact .inl (by omega)
  · exact .inl (by omega)
  · exact .inr ⟨by omega, cmpB_tr _ _ _ h1' h2'⟩
/-! ### where things stand -/
theorem hash_ge {ps : List Pr} (h : rising bF ps = true) (f : ByteArray) : ∀ (j : Nat) a, ps[j]? = some a → hashAt ps f ≤ j → 0 ≤ cmpB a.1 f := by
  intro j a h1 h2
  have := plc_ge (cmp := bF) (fun p : Pr => decide (cmpB p.1 f < 0)) bF_tr (fun a b h h' => by simp at h' ⊢; exact cmpB_tr _ _ _ h h') ps h j a h1 h2
  simpa using this
theorem set_ge {l : List ByteArray} (h : rising cmpB l = true) (t : ByteArray) : ∀ (j : Nat) a, l[j]? = some a → setAt l t ≤ j → lessB a t = false :=
  fun j a h1 h2 => plc_ge (cmp := cmpB) (fun a => lessB a t) cmpB_tr (fun a b h h' => by rw [lessB_eq] at h' ⊢; simp at h' ⊢; exact cmpB_tr _ _ _ h h') l h j a h1 h2
theorem rising_del {α : Type} {cmp : α → α → Int} (tr : ∀ a b c, cmp a b < 0 → cmp b c < 0 → cmp a c < 0) : ∀ (l : List α) (i : Nat), rising cmp l = true → rising cmp (delAt l i) = true
  | [], i, _ => by simp [delAt, rising]
  | x :: l, 0, h => by simpa [delAt] using rising_tail h
  | x :: l, i + 1, h => by
    have ih := rising_del tr l i (rising_tail h)
    have e : delAt (x :: l) (i + 1) = x :: delAt l i := by simp [delAt]
    rw [e]
    cases hd : delAt l i with
    | nil => rfl
    | cons y r =>
      rw [hd] at ih
      simp only [rising, Bool.and_eq_true, decide_eq_true_eq]
      refine ⟨rising_head tr h y ?_, ih⟩
      have : y ∈ delAt l i := by rw [hd]; exact List.mem_cons_self ..
      unfold delAt at this
      rcases List.mem_append.1 this with h | h
      · exact List.mem_of_mem_take h
      · exact List.mem_of_mem_drop h
theorem rank_ge {l : List Sc} (h : rising bS l = true) (m : ByteArray) (n : Int) : ∀ (j : Nat) a, (rankCut l m)[j]? = some a → rankAt (rankCut l m) m n ≤ j → 0 ≤ bS a (m, n) := by
  intro j a h1 h2
  have hr : rising bS (rankCut l m) = true := by
    unfold rankCut
    split
    · exact h
    · exact rising_del bS_tr l _ h
  have := plc_ge (cmp := bS) (fun a : Sc => decide (bS a (m, n) < 0)) bS_tr (fun a b h h' => by simp at h' ⊢; exact bS_tr _ _ _ h h') (rankCut l m) hr j a h1 h2
  simpa using this
/-! ### how long -/
theorem insAt_length {α : Type} (l : List α) (i : Nat) (x : α) : (insAt l i x).length = l.length + 1 := by unfold insAt; simp; omega
theorem delAt_length {α : Type} (l : List α) (i : Nat) : (delAt l i).length ≤ l.length := by unfold delAt; simp; omega
theorem hashV_len (ps : List Pr) (c : Cmd) : (hashV ps c).1.length ≤ ps.length + 1 := by
  unfold hashV
  simp only
  have := delAt_length ps (hashAt ps c.field)
  repeat' split
  all_goals first | (simp; done) | (rw [insAt_length]; omega) | (simp; omega) | omega
theorem listV_len (ps : List ByteArray) (c : Cmd) : (listV ps c).1.length ≤ ps.length + 1 := by
  unfold listV
  repeat' split
  all_goals first | (simp; done) | (simp; omega)
theorem setV_len (ps : List ByteArray) (c : Cmd) : (setV ps c).1.length ≤ ps.length + 1 := by
  unfold setV
  simp only
  have := delAt_length ps (setAt ps c.text)
  repeat' split
  all_goals first | (simp; done) | (rw [insAt_length]; omega) | (simp; omega) | omega
theorem rankCut_len (ps : List Sc) (m : ByteArray) : (rankCut ps m).length ≤ ps.length := by
  unfold rankCut
  split
  · exact Nat.le_refl _
  · exact delAt_length _ _
theorem ranksV_len (ps : List Sc) (c : Cmd) : (ranksV ps c).1.length ≤ ps.length + 1 := by
  unfold ranksV
  simp only
  have := rankCut_len ps c.text
  repeat' split
  all_goals first | (simp; done) | (rw [insAt_length]; omega) | (simp; omega) | omega
theorem doV_len (v : Val) (c : Cmd) : (doV v c).1.pairs.length ≤ v.pairs.length + 1 ∧ (doV v c).1.items.length ≤ v.items.length + 1 ∧ (doV v c).1.scores.length ≤ v.scores.length + 1 := by
  have h1 := hashV_len v.pairs c
  have h2 := listV_len v.items c
  have h3 := setV_len v.items c
  have h4 := ranksV_len v.scores c
  unfold doV
  repeat' split
  all_goals (simp; try omega)
end Go.Proofs.Ytpdcfljbabpakaa

/- What Check answers of a value of the first kinds. -/
set_option linter.unusedVariables false
set_option linter.unusedSimpArgs false
set_option maxRecDepth 100000
set_option maxHeartbeats 8000000
namespace Go.Proofs.Ytpdcfljbabpakaa
open Go Go.RowKit Go.Proofs.AE
variable {G : Nat → AV}
theorem checkK1_c (v : Val) (hs : v.Small) (hk : v.kind = 1) : PCall Try.prog G 51 [.agg v.c] (iV (checkV v)) := by
  obtain ⟨k, t, n, p, l, s⟩ := v
  obtain ⟨s1, s2, s3⟩ := hs
  simp only at hk s1 s2 s3
  subst hk
  obtain ⟨b1, hb1⟩ : ∃ b, l.any longS = b := ⟨_, rfl⟩
  obtain ⟨b2, hb2⟩ : ∃ b, p.any badP = b := ⟨_, rfl⟩
  obtain ⟨b3, hb3⟩ : ∃ b, s.any longM = b := ⟨_, rfl⟩
  obtain ⟨b4, hb4⟩ : ∃ b, s.any farN = b := ⟨_, rfl⟩
  obtain ⟨b5, hb5⟩ : ∃ b, rising bF p = b := ⟨_, rfl⟩
  obtain ⟨b6, hb6⟩ : ∃ b, rising bS s = b := ⟨_, rfl⟩
  obtain ⟨b7, hb7⟩ : ∃ b, rising cmpB l = b := ⟨_, rfl⟩
  obtain ⟨b8, hb8⟩ : ∃ b, okText t = b := ⟨_, rfl⟩
  obtain ⟨b9, hb9⟩ : ∃ b, okCount n = b := ⟨_, rfl⟩
  obtain ⟨d, hd⟩ : ∃ b, (n != 0) = b := ⟨_, rfl⟩
  obtain ⟨d1, hd1⟩ : ∃ b, decide (t = ⟨#[]⟩) = b := ⟨_, rfl⟩
  have hC : checkV ⟨1, t, n, p, l, s⟩ = if ((1 != 1 && !d1) || (1 != 2 && d) || decide (0 < (if (1 : Int) = 3 then 0 else (p.length : Int)) + (if (1 : Int) = 4 ∨ (1 : Int) = 5 then 0 else (l.length : Int)) + (if (1 : Int) = 6 then 0 else (s.length : Int)))) = true then 8
      else if 3 ≤ (1 : Int) ∧ ((p.length : Int) + l.length + s.length < 1 ∨ 20 < (p.length : Int) + l.length + s.length) then 1 else if (!b8 || b1) = true then 1 else if b2 = true then 1 else if b3 = true then 1 else if (!b9 || b4) = true then 2
      else if ((b5 && b6 && (decide ((1 : Int) ≠ 5) || b7)) && onceB s s.length) = true then 0 else 10 := by
    simp only [checkV, Val.bad, Val.els, Val.order, Val.ord, hb1, hb2, hb3, hb4, hb5, hb6, hb7, hb8, hb9, ← hd, ← hd1]
    rw [if_neg (by decide), if_neg (by decide)]
    simp
  rw [hC]
  clear hC
  refine pcallc mixed Try.func51 ac_value_Check ?_
  unfold Val.c
  repeat' (first | (with_reducible first | refine Cn (fun h => ?_) fun h => ?_ | refine And.intro ?_ ?_ | refine wR ?_ | exact wr _ _ | refine wa ?_ | apply awp_join | refine q1 (by exact elements_c _ _ _ _ _ _ (by simp; omega)) ?_ | refine q1d (by exact elements_c _ _ _ _ _ _ (by simp; omega)) ?_ | refine q1 (by exact elements_c 1 n t [] (strRows l) (sR s) (by simp; omega)) ?_ | refine q1d (by exact elements_c 1 n t [] (strRows l) (sR s) (by simp; omega)) ?_ | refine q (elements_c 1 n t [] (strRows l) (sR s) (by simp; omega)) ?_ | refine qd (elements_c 1 n t [] (strRows l) (sR s) (by simp; omega)) ?_ | refine qz (elements_c 1 n t [] (strRows l) (sR s) (by simp; omega)) ?_ | refine q1 (by exact elements_c 1 n t (pR p) [] (sR s) (by simp; omega)) ?_ | refine q1d (by exact elements_c 1 n t (pR p) [] (sR s) (by simp; omega)) ?_ | refine q (elements_c 1 n t (pR p) [] (sR s) (by simp; omega)) ?_ | refine qd (elements_c 1 n t (pR p) [] (sR s) (by simp; omega)) ?_ | refine qz (elements_c 1 n t (pR p) [] (sR s) (by simp; omega)) ?_ | refine q1 (by exact elements_c 1 n t (pR p) (strRows l) [] (by simp; omega)) ?_ | refine q1d (by exact elements_c 1 n t (pR p) (strRows l) [] (by simp; omega)) ?_ | refine q (elements_c 1 n t (pR p) (strRows l) [] (by simp; omega)) ?_ | refine qd (elements_c 1 n t (pR p) (strRows l) [] (by simp; omega)) ?_ | refine qz (elements_c 1 n t (pR p) (strRows l) [] (by simp; omega)) ?_ | refine q (text_c _) ?_ | refine qd (text_c _) ?_ | refine qz (text_c _) ?_ | refine q1 (by exact containsFunc_c _ longS _ (by omega) en61 checkFn1_c) ?_ | refine q1d (by exact containsFunc_c _ longS _ (by omega) en61 checkFn1_c) ?_ | refine q1 (by exact containsFunc_api_Pair _ badP _ (by omega) en63 checkFn2_c) ?_ | refine q1d (by exact containsFunc_api_Pair _ badP _ (by omega) en63 checkFn2_c) ?_ | refine q1 (by exact containsFunc_api_Score _ longM _ (by omega) en66 checkFn3_c) ?_ | refine q1d (by exact containsFunc_api_Score _ longM _ (by omega) en66 checkFn3_c) ?_ | refine q (count_c _) ?_ | refine qd (count_c _) ?_ | refine qz (count_c _) ?_ | refine q1 (by exact containsFunc_api_Score _ farN _ (by omega) en68 checkFn4_c) ?_ | refine q1d (by exact containsFunc_api_Score _ farN _ (by omega) en68 checkFn4_c) ?_ | refine q1 (by exact rising_api_Pair _ bF _ (by omega) en70 byField_c) ?_ | refine q1d (by exact rising_api_Pair _ bF _ (by omega) en70 byField_c) ?_ | refine q1 (by exact rising_api_Score _ bS _ (by omega) en72 byScore_c) ?_ | refine q1d (by exact rising_api_Score _ bS _ (by omega) en72 byScore_c) ?_ | refine q1 (by exact rising_string _ cmpB _ (by omega) en74 stringsCompare_c) ?_ | refine q1d (by exact rising_string _ cmpB _ (by omega) en74 stringsCompare_c) ?_) | (with_reducible refine CallZ.z ?_) | simp -dsimp [go_sem, hb1, hb2, hb3, hb4, hb5, hb6, hb7, hb8, hb9, hd, hd1])
  all_goals first
    | (refine awp_loop (fun i : Nat => ⟨[(1, .one (.ptr 0 0)), (4, bV ((b5 && b6 && (decide ((1 : Int) ≠ 5) || b7)) && onceB s i)), (100, .one (.v (.sl (sR s)))), (101, iV s.length), (102, iV i)], G, [some (.box 77 (Val.mk 1 t n p l s).c)]⟩) (fun i => i ≤ s.length) (fun i => s.length - i) 0 (weak_auto ?_) (Nat.zero_le _) ?_
       · clear hb1 hb2 hb3 hb4 hb5 hb6 hb7 hb8 hb9 hd hd1
         simp_all -dsimp [go_sem, onceB, Val.c]
       · intro i hi
         have hul := ul_s s
         simp -dsimp [go_sem, Val.c]
         refine Cnd.intro (fun h => ?_) (fun h => ?_)
         · have hlt : i < s.length := by simpa using h
           obtain ⟨a, ha⟩ : ∃ a, s[i] = a := ⟨_, rfl⟩
           have hgi : s[i]? = some a := by rw [List.getElem?_eq_getElem hlt, ha]
           have w1 : IntKind.i64.wrap ((i : Int) + 1) = (i : Int) + 1 := IntWalk.i64_in _ (by omega)
           have hon := onceB_succ s hgi
           obtain ⟨o1, ho1⟩ : ∃ b, onceB s i = b := ⟨_, rfl⟩
           rw [ho1] at hon ⊢
           repeat' (first | (with_reducible first | refine Cn (fun h => ?_) fun h => ?_ | refine And.intro ?_ ?_ | refine wR ?_ | exact wr _ _ | refine wa ?_ | apply awp_join | refine q1 (by exact rank_c _ _ (by simp; omega)) ?_ | refine q1d (by exact rank_c _ _ (by simp; omega)) ?_) | (with_reducible refine CallZ.z ?_) | simp -dsimp [go_sem, hgi, w1, ← List.map_take])
           all_goals first
             | omega
             | assumption
             | (with_reducible refine Again.auto (i + 1) ?_ ?_ ?_)
           all_goals first
             | exact hlt
             | (show s.length - (i + 1) < s.length - i; omega)
             | (rw [hon]; clear hb1 hb2 hb3 hb4 hb5 hb6 hb7 hb8 hb9 hd hd1 hon; simp_all -dsimp [go_sem, Val.c]; done)
         · have hge : ¬ i < s.length := by simpa using h
           have : i = s.length := by omega
           subst this
           repeat' (first | (with_reducible first | refine Cn (fun h => ?_) fun h => ?_ | refine And.intro ?_ ?_ | refine wR ?_ | exact wr _ _ | refine wa ?_ | apply awp_join) | (with_reducible refine CallZ.z ?_) | simp -dsimp [go_sem])
           all_goals (clear hb1 hb2 hb3 hb4 hb5 hb6 hb7 hb8 hb9 hd hd1; (try simp_all); try first | omega | ((repeat' split) <;> first | rfl | omega | (exfalso; simp_all; done))))
    | (clear hb1 hb2 hb3 hb4 hb5 hb6 hb7 hb8 hb9 hd hd1; simp_all; done)
    | (clear hb1 hb2 hb3 hb4 hb5 hb6 hb7 hb8 hb9 hd hd1; simp_all; omega)
    | (clear hb1 hb2 hb3 hb4 hb5 hb6 hb7 hb8 hb9 hd hd1; simp_all; (try intros); (repeat' split) <;> first | rfl | omega | (simp_all; done) | (simp_all; omega))
theorem checkK2_c (v : Val) (hs : v.Small) (hk : v.kind = 2) : PCall Try.prog G 51 [.agg v.c] (iV (checkV v)) := by
  obtain ⟨k, t, n, p, l, s⟩ := v
  obtain ⟨s1, s2, s3⟩ := hs
  simp only at hk s1 s2 s3
  subst hk
  obtain ⟨b1, hb1⟩ : ∃ b, l.any longS = b := ⟨_, rfl⟩
  obtain ⟨b2, hb2⟩ : ∃ b, p.any badP = b := ⟨_, rfl⟩
  obtain ⟨b3, hb3⟩ : ∃ b, s.any longM = b := ⟨_, rfl⟩
  obtain ⟨b4, hb4⟩ : ∃ b, s.any farN = b := ⟨_, rfl⟩
  obtain ⟨b5, hb5⟩ : ∃ b, rising bF p = b := ⟨_, rfl⟩
  obtain ⟨b6, hb6⟩ : ∃ b, rising bS s = b := ⟨_, rfl⟩
  obtain ⟨b7, hb7⟩ : ∃ b, rising cmpB l = b := ⟨_, rfl⟩
  obtain ⟨b8, hb8⟩ : ∃ b, okText t = b := ⟨_, rfl⟩
  obtain ⟨b9, hb9⟩ : ∃ b, okCount n = b := ⟨_, rfl⟩
  obtain ⟨d, hd⟩ : ∃ b, (n != 0) = b := ⟨_, rfl⟩
  obtain ⟨d1, hd1⟩ : ∃ b, decide (t = ⟨#[]⟩) = b := ⟨_, rfl⟩
  have hC : checkV ⟨2, t, n, p, l, s⟩ = if ((2 != 1 && !d1) || (2 != 2 && d) || decide (0 < (if (2 : Int) = 3 then 0 else (p.length : Int)) + (if (2 : Int) = 4 ∨ (2 : Int) = 5 then 0 else (l.length : Int)) + (if (2 : Int) = 6 then 0 else (s.length : Int)))) = true then 8
      else if 3 ≤ (2 : Int) ∧ ((p.length : Int) + l.length + s.length < 1 ∨ 20 < (p.length : Int) + l.length + s.length) then 1 else if (!b8 || b1) = true then 1 else if b2 = true then 1 else if b3 = true then 1 else if (!b9 || b4) = true then 2
      else if ((b5 && b6 && (decide ((2 : Int) ≠ 5) || b7)) && onceB s s.length) = true then 0 else 10 := by
    simp only [checkV, Val.bad, Val.els, Val.order, Val.ord, hb1, hb2, hb3, hb4, hb5, hb6, hb7, hb8, hb9, ← hd, ← hd1]
    rw [if_neg (by decide), if_neg (by decide)]
    simp
  rw [hC]
  clear hC
  refine pcallc mixed Try.func51 ac_value_Check ?_
  unfold Val.c
  repeat' (first | (with_reducible first | refine Cn (fun h => ?_) fun h => ?_ | refine And.intro ?_ ?_ | refine wR ?_ | exact wr _ _ | refine wa ?_ | apply awp_join | refine q1 (by exact elements_c _ _ _ _ _ _ (by simp; omega)) ?_ | refine q1d (by exact elements_c _ _ _ _ _ _ (by simp; omega)) ?_ | refine q1 (by exact elements_c 2 n t [] (strRows l) (sR s) (by simp; omega)) ?_ | refine q1d (by exact elements_c 2 n t [] (strRows l) (sR s) (by simp; omega)) ?_ | refine q (elements_c 2 n t [] (strRows l) (sR s) (by simp; omega)) ?_ | refine qd (elements_c 2 n t [] (strRows l) (sR s) (by simp; omega)) ?_ | refine qz (elements_c 2 n t [] (strRows l) (sR s) (by simp; omega)) ?_ | refine q1 (by exact elements_c 2 n t (pR p) [] (sR s) (by simp; omega)) ?_ | refine q1d (by exact elements_c 2 n t (pR p) [] (sR s) (by simp; omega)) ?_ | refine q (elements_c 2 n t (pR p) [] (sR s) (by simp; omega)) ?_ | refine qd (elements_c 2 n t (pR p) [] (sR s) (by simp; omega)) ?_ | refine qz (elements_c 2 n t (pR p) [] (sR s) (by simp; omega)) ?_ | refine q1 (by exact elements_c 2 n t (pR p) (strRows l) [] (by simp; omega)) ?_ | refine q1d (by exact elements_c 2 n t (pR p) (strRows l) [] (by simp; omega)) ?_ | refine q (elements_c 2 n t (pR p) (strRows l) [] (by simp; omega)) ?_ | refine qd (elements_c 2 n t (pR p) (strRows l) [] (by simp; omega)) ?_ | refine qz (elements_c 2 n t (pR p) (strRows l) [] (by simp; omega)) ?_ | refine q (text_c _) ?_ | refine qd (text_c _) ?_ | refine qz (text_c _) ?_ | refine q1 (by exact containsFunc_c _ longS _ (by omega) en61 checkFn1_c) ?_ | refine q1d (by exact containsFunc_c _ longS _ (by omega) en61 checkFn1_c) ?_ | refine q1 (by exact containsFunc_api_Pair _ badP _ (by omega) en63 checkFn2_c) ?_ | refine q1d (by exact containsFunc_api_Pair _ badP _ (by omega) en63 checkFn2_c) ?_ | refine q1 (by exact containsFunc_api_Score _ longM _ (by omega) en66 checkFn3_c) ?_ | refine q1d (by exact containsFunc_api_Score _ longM _ (by omega) en66 checkFn3_c) ?_ | refine q (count_c _) ?_ | refine qd (count_c _) ?_ | refine qz (count_c _) ?_ | refine q1 (by exact containsFunc_api_Score _ farN _ (by omega) en68 checkFn4_c) ?_ | refine q1d (by exact containsFunc_api_Score _ farN _ (by omega) en68 checkFn4_c) ?_ | refine q1 (by exact rising_api_Pair _ bF _ (by omega) en70 byField_c) ?_ | refine q1d (by exact rising_api_Pair _ bF _ (by omega) en70 byField_c) ?_ | refine q1 (by exact rising_api_Score _ bS _ (by omega) en72 byScore_c) ?_ | refine q1d (by exact rising_api_Score _ bS _ (by omega) en72 byScore_c) ?_ | refine q1 (by exact rising_string _ cmpB _ (by omega) en74 stringsCompare_c) ?_ | refine q1d (by exact rising_string _ cmpB _ (by omega) en74 stringsCompare_c) ?_) | (with_reducible refine CallZ.z ?_) | simp -dsimp [go_sem, hb1, hb2, hb3, hb4, hb5, hb6, hb7, hb8, hb9, hd, hd1])
  all_goals first
    | (refine awp_loop (fun i : Nat => ⟨[(1, .one (.ptr 0 0)), (4, bV ((b5 && b6 && (decide ((2 : Int) ≠ 5) || b7)) && onceB s i)), (100, .one (.v (.sl (sR s)))), (101, iV s.length), (102, iV i)], G, [some (.box 77 (Val.mk 2 t n p l s).c)]⟩) (fun i => i ≤ s.length) (fun i => s.length - i) 0 (weak_auto ?_) (Nat.zero_le _) ?_
       · clear hb1 hb2 hb3 hb4 hb5 hb6 hb7 hb8 hb9 hd hd1
         simp_all -dsimp [go_sem, onceB, Val.c]
       · intro i hi
         have hul := ul_s s
         simp -dsimp [go_sem, Val.c]
         refine Cnd.intro (fun h => ?_) (fun h => ?_)
         · have hlt : i < s.length := by simpa using h
           obtain ⟨a, ha⟩ : ∃ a, s[i] = a := ⟨_, rfl⟩
           have hgi : s[i]? = some a := by rw [List.getElem?_eq_getElem hlt, ha]
           have w1 : IntKind.i64.wrap ((i : Int) + 1) = (i : Int) + 1 := IntWalk.i64_in _ (by omega)
           have hon := onceB_succ s hgi
           obtain ⟨o1, ho1⟩ : ∃ b, onceB s i = b := ⟨_, rfl⟩
           rw [ho1] at hon ⊢
           repeat' (first | (with_reducible first | refine Cn (fun h => ?_) fun h => ?_ | refine And.intro ?_ ?_ | refine wR ?_ | exact wr _ _ | refine wa ?_ | apply awp_join | refine q1 (by exact rank_c _ _ (by simp; omega)) ?_ | refine q1d (by exact rank_c _ _ (by simp; omega)) ?_) | (with_reducible refine CallZ.z ?_) | simp -dsimp [go_sem, hgi, w1, ← List.map_take])
           all_goals first
             | omega
             | assumption
             | (with_reducible refine Again.auto (i + 1) ?_ ?_ ?_)
           all_goals first
             | exact hlt
             | (show s.length - (i + 1) < s.length - i; omega)
             | (rw [hon]; clear hb1 hb2 hb3 hb4 hb5 hb6 hb7 hb8 hb9 hd hd1 hon; simp_all -dsimp [go_sem, Val.c]; done)
         · have hge : ¬ i < s.length := by simpa using h
           have : i = s.length := by omega
           subst this
           repeat' (first | (with_reducible first | refine Cn (fun h => ?_) fun h => ?_ | refine And.intro ?_ ?_ | refine wR ?_ | exact wr _ _ | refine wa ?_ | apply awp_join) | (with_reducible refine CallZ.z ?_) | simp -dsimp [go_sem])
           all_goals (clear hb1 hb2 hb3 hb4 hb5 hb6 hb7 hb8 hb9 hd hd1; (try simp_all); try first | omega | ((repeat' split) <;> first | rfl | omega | (exfalso; simp_all; done))))
    | (clear hb1 hb2 hb3 hb4 hb5 hb6 hb7 hb8 hb9 hd hd1; simp_all; done)
    | (clear hb1 hb2 hb3 hb4 hb5 hb6 hb7 hb8 hb9 hd hd1; simp_all; omega)
    | (clear hb1 hb2 hb3 hb4 hb5 hb6 hb7 hb8 hb9 hd hd1; simp_all; (try intros); (repeat' split) <;> first | rfl | omega | (simp_all; done) | (simp_all; omega))
theorem checkK3_c (v : Val) (hs : v.Small) (hk : v.kind = 3) : PCall Try.prog G 51 [.agg v.c] (iV (checkV v)) := by
  obtain ⟨k, t, n, p, l, s⟩ := v
  obtain ⟨s1, s2, s3⟩ := hs
  simp only at hk s1 s2 s3
  subst hk
  obtain ⟨b1, hb1⟩ : ∃ b, l.any longS = b := ⟨_, rfl⟩
  obtain ⟨b2, hb2⟩ : ∃ b, p.any badP = b := ⟨_, rfl⟩
  obtain ⟨b3, hb3⟩ : ∃ b, s.any longM = b := ⟨_, rfl⟩
  obtain ⟨b4, hb4⟩ : ∃ b, s.any farN = b := ⟨_, rfl⟩
  obtain ⟨b5, hb5⟩ : ∃ b, rising bF p = b := ⟨_, rfl⟩
  obtain ⟨b6, hb6⟩ : ∃ b, rising bS s = b := ⟨_, rfl⟩
  obtain ⟨b7, hb7⟩ : ∃ b, rising cmpB l = b := ⟨_, rfl⟩
  obtain ⟨b8, hb8⟩ : ∃ b, okText t = b := ⟨_, rfl⟩
  obtain ⟨b9, hb9⟩ : ∃ b, okCount n = b := ⟨_, rfl⟩
  obtain ⟨d, hd⟩ : ∃ b, (n != 0) = b := ⟨_, rfl⟩
  obtain ⟨d1, hd1⟩ : ∃ b, decide (t = ⟨#[]⟩) = b := ⟨_, rfl⟩
  have hC : checkV ⟨3, t, n, p, l, s⟩ = if ((3 != 1 && !d1) || (3 != 2 && d) || decide (0 < (if (3 : Int) = 3 then 0 else (p.length : Int)) + (if (3 : Int) = 4 ∨ (3 : Int) = 5 then 0 else (l.length : Int)) + (if (3 : Int) = 6 then 0 else (s.length : Int)))) = true then 8
      else if 3 ≤ (3 : Int) ∧ ((p.length : Int) + l.length + s.length < 1 ∨ 20 < (p.length : Int) + l.length + s.length) then 1 else if (!b8 || b1) = true then 1 else if b2 = true then 1 else if b3 = true then 1 else if (!b9 || b4) = true then 2
      else if ((b5 && b6 && (decide ((3 : Int) ≠ 5) || b7)) && onceB s s.length) = true then 0 else 10 := by
    simp only [checkV, Val.bad, Val.els, Val.order, Val.ord, hb1, hb2, hb3, hb4, hb5, hb6, hb7, hb8, hb9, ← hd, ← hd1]
    rw [if_neg (by decide), if_neg (by decide)]
    simp
  rw [hC]
  clear hC
  refine pcallc mixed Try.func51 ac_value_Check ?_
  unfold Val.c
  repeat' (first | (with_reducible first | refine Cn (fun h => ?_) fun h => ?_ | refine And.intro ?_ ?_ | refine wR ?_ | exact wr _ _ | refine wa ?_ | apply awp_join | refine q1 (by exact elements_c _ _ _ _ _ _ (by simp; omega)) ?_ | refine q1d (by exact elements_c _ _ _ _ _ _ (by simp; omega)) ?_ | refine q1 (by exact elements_c 3 n t [] (strRows l) (sR s) (by simp; omega)) ?_ | refine q1d (by exact elements_c 3 n t [] (strRows l) (sR s) (by simp; omega)) ?_ | refine q (elements_c 3 n t [] (strRows l) (sR s) (by simp; omega)) ?_ | refine qd (elements_c 3 n t [] (strRows l) (sR s) (by simp; omega)) ?_ | refine qz (elements_c 3 n t [] (strRows l) (sR s) (by simp; omega)) ?_ | refine q1 (by exact elements_c 3 n t (pR p) [] (sR s) (by simp; omega)) ?_ | refine q1d (by exact elements_c 3 n t (pR p) [] (sR s) (by simp; omega)) ?_ | refine q (elements_c 3 n t (pR p) [] (sR s) (by simp; omega)) ?_ | refine qd (elements_c 3 n t (pR p) [] (sR s) (by simp; omega)) ?_ | refine qz (elements_c 3 n t (pR p) [] (sR s) (by simp; omega)) ?_ | refine q1 (by exact elements_c 3 n t (pR p) (strRows l) [] (by simp; omega)) ?_ | refine q1d (by exact elements_c 3 n t (pR p) (strRows l) [] (by simp; omega)) ?_ | refine q (elements_c 3 n t (pR p) (strRows l) [] (by simp; omega)) ?_ | refine qd (elements_c 3 n t (pR p) (strRows l) [] (by simp; omega)) ?_ | refine qz (elements_c 3 n t (pR p) (strRows l) [] (by simp; omega)) ?_ | refine q (text_c _) ?_ | refine qd (text_c _) ?_ | refine qz (text_c _) ?_ | refine q1 (by exact containsFunc_c _ longS _ (by omega) en61 checkFn1_c) ?_ | refine q1d (by exact containsFunc_c _ longS _ (by omega) en61 checkFn1_c) ?_ | refine q1 (by exact containsFunc_api_Pair _ badP _ (by omega) en63 checkFn2_c) ?_ | refine q1d (by exact containsFunc_api_Pair _ badP _ (by omega) en63 checkFn2_c) ?_ | refine q1 (by exact containsFunc_api_Score _ longM _ (by omega) en66 checkFn3_c) ?_ | refine q1d (by exact containsFunc_api_Score _ longM _ (by omega) en66 checkFn3_c) ?_ | refine q (count_c _) ?_ | refine qd (count_c _) ?_ | refine qz (count_c _) ?_ | refine q1 (by exact containsFunc_api_Score _ farN _ (by omega) en68 checkFn4_c) ?_ | refine q1d (by exact containsFunc_api_Score _ farN _ (by omega) en68 checkFn4_c) ?_ | refine q1 (by exact rising_api_Pair _ bF _ (by omega) en70 byField_c) ?_ | refine q1d (by exact rising_api_Pair _ bF _ (by omega) en70 byField_c) ?_ | refine q1 (by exact rising_api_Score _ bS _ (by omega) en72 byScore_c) ?_ | refine q1d (by exact rising_api_Score _ bS _ (by omega) en72 byScore_c) ?_ | refine q1 (by exact rising_string _ cmpB _ (by omega) en74 stringsCompare_c) ?_ | refine q1d (by exact rising_string _ cmpB _ (by omega) en74 stringsCompare_c) ?_) | (with_reducible refine CallZ.z ?_) | simp -dsimp [go_sem, hb1, hb2, hb3, hb4, hb5, hb6, hb7, hb8, hb9, hd, hd1])
  all_goals first
    | (refine awp_loop (fun i : Nat => ⟨[(1, .one (.ptr 0 0)), (4, bV ((b5 && b6 && (decide ((3 : Int) ≠ 5) || b7)) && onceB s i)), (100, .one (.v (.sl (sR s)))), (101, iV s.length), (102, iV i)], G, [some (.box 77 (Val.mk 3 t n p l s).c)]⟩) (fun i => i ≤ s.length) (fun i => s.length - i) 0 (weak_auto ?_) (Nat.zero_le _) ?_
       · clear hb1 hb2 hb3 hb4 hb5 hb6 hb7 hb8 hb9 hd hd1
         simp_all -dsimp [go_sem, onceB, Val.c]
       · intro i hi
         have hul := ul_s s
         simp -dsimp [go_sem, Val.c]
         refine Cnd.intro (fun h => ?_) (fun h => ?_)
         · have hlt : i < s.length := by simpa using h
           obtain ⟨a, ha⟩ : ∃ a, s[i] = a := ⟨_, rfl⟩
           have hgi : s[i]? = some a := by rw [List.getElem?_eq_getElem hlt, ha]
           have w1 : IntKind.i64.wrap ((i : Int) + 1) = (i : Int) + 1 := IntWalk.i64_in _ (by omega)
           have hon := onceB_succ s hgi
           obtain ⟨o1, ho1⟩ : ∃ b, onceB s i = b := ⟨_, rfl⟩
           rw [ho1] at hon ⊢
           repeat' (first | (with_reducible first | refine Cn (fun h => ?_) fun h => ?_ | refine And.intro ?_ ?_ | refine wR ?_ | exact wr _ _ | refine wa ?_ | apply awp_join | refine q1 (by exact rank_c _ _ (by simp; omega)) ?_ | refine q1d (by exact rank_c _ _ (by simp; omega)) ?_) | (with_reducible refine CallZ.z ?_) | simp -dsimp [go_sem, hgi, w1, ← List.map_take])
           all_goals first
             | omega
             | assumption
             | (with_reducible refine Again.auto (i + 1) ?_ ?_ ?_)
           all_goals first
             | exact hlt
             | (show s.length - (i + 1) < s.length - i; omega)
             | (rw [hon]; clear hb1 hb2 hb3 hb4 hb5 hb6 hb7 hb8 hb9 hd hd1 hon; simp_all -dsimp [go_sem, Val.c]; done)
         · have hge : ¬ i < s.length := by simpa using h
           have : i = s.length := by omega
           subst this
           repeat' (first | (with_reducible first | refine Cn (fun h => ?_) fun h => ?_ | refine And.intro ?_ ?_ | refine wR ?_ | exact wr _ _ | refine wa ?_ | apply awp_join) | (with_reducible refine CallZ.z ?_) | simp -dsimp [go_sem])
           all_goals (clear hb1 hb2 hb3 hb4 hb5 hb6 hb7 hb8 hb9 hd hd1; (try simp_all); try first | omega | ((repeat' split) <;> first | rfl | omega | (exfalso; simp_all; done))))
    | (clear hb1 hb2 hb3 hb4 hb5 hb6 hb7 hb8 hb9 hd hd1; simp_all; done)
    | (clear hb1 hb2 hb3 hb4 hb5 hb6 hb7 hb8 hb9 hd hd1; simp_all; omega)
    | (clear hb1 hb2 hb3 hb4 hb5 hb6 hb7 hb8 hb9 hd hd1; simp_all; (try intros); (repeat' split) <;> first | rfl | omega | (simp_all; done) | (simp_all; omega))
end Go.Proofs.Ytpdcfljbabpakaa
