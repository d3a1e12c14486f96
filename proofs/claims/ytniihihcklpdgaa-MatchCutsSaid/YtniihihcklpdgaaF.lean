/- What the functions that make and check items answer. -/
import Derived.Test.YtniihihcklpdgaaE
set_option linter.unusedVariables false
set_option linter.unusedSimpArgs false
set_option maxRecDepth 100000
set_option maxHeartbeats 8000000
namespace Go.Proofs.Ytniihihcklpdgaa
open Go Go.RowKit Go.Proofs.AE
variable {G : Nat → AV}
abbrev bC (b : Bool) : C := .v (.lit (.bool b))
/-- The cells of an item. -/
def itemC (term time : Int) (nop : Bool) (client seq k : Int) (key field text : ByteArray) (n : Int) : List C := [iC term, iC time, bC nop, iC client, iC seq, iC k, sC key, sC field, sC text, iC n]
def noCall (client seq k : Int) (key field text : ByteArray) (n : Int) : Bool := client == 0 && (seq == 0 && (k == 0 && (decide (key = ⟨#[]⟩) && (decide (field = ⟨#[]⟩) && (decide (text = ⟨#[]⟩) && n == 0)))))
def checkItem (term time : Int) (nop : Bool) (client seq k : Int) (key field text : ByteArray) (n : Int) : Int :=
  if decide (term < 1) then 2 else if decide (1048576 < term) then 2 else if decide (time < 0) then 2 else if decide (1073741824 < time) then 2
  else if nop then (if noCall client seq k key field text n then 0 else 8) else checkCall client seq k key field text n
theorem checkItem_c (term time : Int) (nop : Bool) (client seq k : Int) (key field text : ByteArray) (n : Int) :
    PCall Try.prog G 32 [.agg [iC term, iC time, bC nop, iC client, iC seq, iC k, sC key, sC field, sC text, iC n]] (iV (checkItem term time nop client seq k key field text n)) := by
  refine pcall mixed Try.func32 ok_wire_CheckItem rs_wire_CheckItem (by simp [Try.f32]) ?_
  unfold ac_wire_CheckItem
  repeat' (first
    | (with_reducible refine Cnd.intro (fun h => ?_) (fun h => ?_))
    | (with_reducible refine And.intro ?_ ?_)
    | (with_reducible refine Wk.refl ?_)
    | (with_reducible exact Weak.refl _ _)
    | (with_reducible refine weak_auto ?_)
    | (with_reducible apply awp_join)
    | (with_reducible refine CallZ.l (PCall.kf (checkCall_c _ _ _ _ _ _ _) ?_ ?_))
    | (with_reducible refine PCall.kf (checkCall_c _ _ _ _ _ _ _) ?_ ?_)
    | (with_reducible refine PCall.df (checkCall_c _ _ _ _ _ _ _) ?_ ?_)
    | (with_reducible refine CallZ.l (PCall.kn (checkCall_c _ _ _ _ _ _ _) (by with_unfolding_all rfl) (by with_unfolding_all rfl) ?_))
    | (with_reducible refine PCall.kn (checkCall_c _ _ _ _ _ _ _) (by with_unfolding_all rfl) (by with_unfolding_all rfl) ?_)
    | (with_reducible refine PCall.dn (checkCall_c _ _ _ _ _ _ _) (by with_unfolding_all rfl) (by with_unfolding_all rfl) ?_)
    | ((with_reducible refine PCall.dz (checkCall_c _ _ _ _ _ _ _) (by with_unfolding_all rfl) (by with_unfolding_all rfl) ?_); rotate_right; rintro zh1 zq1; (try simp -dsimp [go_sem] at zq1); obtain ⟨rfl⟩ := zq1)
    | (with_reducible refine CallZ.z ?_)
    | (simp -dsimp [go_sem]))
  all_goals simp_all [checkItem, noCall]
  all_goals ((repeat' split) <;> first | rfl | omega | (exfalso; simp_all; done))
theorem encodeItemBad_c (term time : Int) (nop : Bool) (client seq k : Int) (key field text : ByteArray) (n : Int) (h : checkItem term time nop client seq k key field text n ≠ 0) :
    PCall Try.prog G 18 [.agg [iC term, iC time, bC nop, iC client, iC seq, iC k, sC key, sC field, sC text, iC n]] (.tup [.one (.v (.sl [])), iV (checkItem term time nop client seq k key field text n)]) := by
  refine pcall mixed Try.func18 ok_wire_EncodeItem rs_wire_EncodeItem (by simp [Try.f18]) ?_
  unfold ac_wire_EncodeItem
  simp -dsimp [go_sem]
  refine CallZ.l ((checkItem_c term time nop client seq k key field text n).kf rfl ?_)
  simp -dsimp [go_sem]
  refine Cnd.intro (fun h' => ?_) (fun h' => ?_)
  · simp -dsimp [go_sem]
  · simp_all
/-- The item of raw numbers. -/
def itemCall (client off kind key field n : Int) (text : ByteArray) : List C :=
  if pk client 5 = 0 ∨ pk client 5 = 1 then [iC 0, iC 0, iC 0, sC ⟨#[]⟩, sC ⟨#[]⟩, sC ⟨#[]⟩, iC 0] else iC (pk client 50 + 1) :: iC (1 + pk off 100) :: cmdOf (1 + pk kind 22) key field n text
theorem item_c (client off wait kind key field n : Int) (text : ByteArray) (term time : Int) (hc : i64 client) (ho : i64 off) (h1 : i64 kind) (h2 : i64 key) (h3 : i64 field) (h4 : i64 n) (ht : i64 term) (hi : i64 time) :
    PCall Try.prog G 17 [.agg [iC client, iC off, iC wait, iC kind, iC key, iC field, iC n, sC text], iV term, iV time]
      (.agg (iC (1 + pk term 1000) :: iC (pk time 100000) :: bC (decide (pk client 5 = 0)) :: itemCall client off kind key field n text)) := by
  have r1 := pk_range (n := term) (m := 1000) (by omega)
  have r2 := pk_range (n := client) (m := 50) (by omega)
  have r3 := pk_range (n := off) (m := 100) (by omega)
  have e1 : IntKind.i64.wrap (1 + pk term 1000) = 1 + pk term 1000 := IntWalk.i64_in _ (by omega)
  have e2 : IntKind.i64.wrap (pk client 50 + 1) = pk client 50 + 1 := IntWalk.i64_in _ (by omega)
  have e3 : IntKind.i64.wrap (1 + pk off 100) = 1 + pk off 100 := IntWalk.i64_in _ (by omega)
  refine pcall mixed Try.func17 ok_rostrumkeep_Item rs_rostrumkeep_Item (by simp [Try.f17]) ?_
  unfold ac_rostrumkeep_Item
  repeat' (first
    | (with_reducible refine Cnd.intro (fun h => ?_) (fun h => ?_))
    | (with_reducible refine And.intro ?_ ?_)
    | (with_reducible refine Wk.refl ?_)
    | (with_reducible exact Weak.refl _ _)
    | (with_reducible refine weak_auto ?_)
    | (with_reducible apply awp_join)
    | (with_reducible refine CallZ.l (PCall.kf (picked_c _ _ (by assumption) (by simp)) ?_ ?_))
    | (with_reducible refine PCall.kf (picked_c _ _ (by assumption) (by simp)) ?_ ?_)
    | (with_reducible refine PCall.df (picked_c _ _ (by assumption) (by simp)) ?_ ?_)
    | (with_reducible refine CallZ.l (PCall.kf (picked_c _ _ (by assumption) (by simp)) ?_ ?_))
    | (with_reducible refine PCall.kf (picked_c _ _ (by assumption) (by simp)) ?_ ?_)
    | (with_reducible refine PCall.df (picked_c _ _ (by assumption) (by simp)) ?_ ?_)
    | (with_reducible refine CallZ.l (PCall.kf (command_c _ _ _ _ _ (by assumption) (by assumption) (by assumption) (by assumption)) ?_ ?_))
    | (with_reducible refine PCall.kf (command_c _ _ _ _ _ (by assumption) (by assumption) (by assumption) (by assumption)) ?_ ?_)
    | (with_reducible refine PCall.df (command_c _ _ _ _ _ (by assumption) (by assumption) (by assumption) (by assumption)) ?_ ?_)
    | (with_reducible refine CallZ.l (PCall.kn (picked_c _ _ (by assumption) (by simp)) (by with_unfolding_all rfl) (by with_unfolding_all rfl) ?_))
    | (with_reducible refine PCall.kn (picked_c _ _ (by assumption) (by simp)) (by with_unfolding_all rfl) (by with_unfolding_all rfl) ?_)
    | (with_reducible refine PCall.dn (picked_c _ _ (by assumption) (by simp)) (by with_unfolding_all rfl) (by with_unfolding_all rfl) ?_)
    | (with_reducible refine CallZ.l (PCall.kn (picked_c _ _ (by assumption) (by simp)) (by with_unfolding_all rfl) (by with_unfolding_all rfl) ?_))
    | (with_reducible refine PCall.kn (picked_c _ _ (by assumption) (by simp)) (by with_unfolding_all rfl) (by with_unfolding_all rfl) ?_)
    | (with_reducible refine PCall.dn (picked_c _ _ (by assumption) (by simp)) (by with_unfolding_all rfl) (by with_unfolding_all rfl) ?_)
    | (with_reducible refine CallZ.l (PCall.kn (command_c _ _ _ _ _ (by assumption) (by assumption) (by assumption) (by assumption)) (by with_unfolding_all rfl) (by with_unfolding_all rfl) ?_))
    | (with_reducible refine PCall.kn (command_c _ _ _ _ _ (by assumption) (by assumption) (by assumption) (by assumption)) (by with_unfolding_all rfl) (by with_unfolding_all rfl) ?_)
    | (with_reducible refine PCall.dn (command_c _ _ _ _ _ (by assumption) (by assumption) (by assumption) (by assumption)) (by with_unfolding_all rfl) (by with_unfolding_all rfl) ?_)
    | ((with_reducible refine PCall.dz (picked_c _ _ (by assumption) (by simp)) (by with_unfolding_all rfl) (by with_unfolding_all rfl) ?_); rotate_right; rintro zh1 zq1; (try simp -dsimp [go_sem] at zq1); obtain ⟨rfl⟩ := zq1)
    | ((with_reducible refine PCall.dz (picked_c _ _ (by assumption) (by simp)) (by with_unfolding_all rfl) (by with_unfolding_all rfl) ?_); rotate_right; rintro zh1 zq1; (try simp -dsimp [go_sem] at zq1); obtain ⟨rfl⟩ := zq1)
    | ((with_reducible refine PCall.dz (command_c _ _ _ _ _ (by assumption) (by assumption) (by assumption) (by assumption)) (by with_unfolding_all rfl) (by with_unfolding_all rfl) ?_); rotate_right; rintro zh1 zq1; (try simp -dsimp [go_sem] at zq1); obtain ⟨rfl⟩ := zq1)
    | (with_reducible refine CallZ.z ?_)
    | (simp -dsimp [go_sem, cmdOf, e1, e2, e3]))
  all_goals simp_all [itemCall, cmdOf, coeCs, coeC]
end Go.Proofs.Ytniihihcklpdgaa
