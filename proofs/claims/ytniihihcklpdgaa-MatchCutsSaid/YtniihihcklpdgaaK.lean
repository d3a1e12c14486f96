/- The items that a list of deeds makes. -/
import Derived.Test.YtniihihcklpdgaaH
import Derived.Test.YtniihihcklpdgaaW
set_option linter.unusedVariables false
set_option linter.unusedSimpArgs false
set_option maxRecDepth 100000
set_option maxHeartbeats 8000000
namespace Go.Proofs.Ytniihihcklpdgaa
open Go Go.RowKit Go.Proofs.AE
variable {G : Nat → AV}
structure Deed where
  client : Int
  off : Int
  wait : Int
  kind : Int
  key : Int
  field : Int
  n : Int
  text : ByteArray
abbrev iL (n : Int) : V := .lit (.int .i64 n)
abbrev sL (s : ByteArray) : V := .lit (.string s)
def Deed.row (d : Deed) : List V := [iL d.client, iL d.off, iL d.wait, iL d.kind, iL d.key, iL d.field, iL d.n, sL d.text]
structure Deed.Ok (d : Deed) : Prop where
  client : i64 d.client
  off : i64 d.off
  wait : i64 d.wait
  kind : i64 d.kind
  key : i64 d.key
  field : i64 d.field
  n : i64 d.n
structure Item where
  term : Int
  time : Int
  nop : Bool
  client : Int
  seq : Int
  k : Int
  key : ByteArray
  field : ByteArray
  text : ByteArray
  n : Int
def Item.row (x : Item) : List V := [iL x.term, iL x.time, .lit (.bool x.nop), iL x.client, iL x.seq, iL x.k, sL x.key, sL x.field, sL x.text, iL x.n]
def Item.check (x : Item) : Int := checkItem x.term x.time x.nop x.client x.seq x.k x.key x.field x.text x.n
/-- The item of a deed. -/
noncomputable def itemOf (d : Deed) (term time : Int) : Item :=
  if pk d.client 5 = 0 ∨ pk d.client 5 = 1 then ⟨term, time, decide (pk d.client 5 = 0), 0, 0, 0, ⟨#[]⟩, ⟨#[]⟩, ⟨#[]⟩, 0⟩
  else match cmdOf (1 + pk d.kind 22) d.key d.field d.n d.text with
    | [.v (.lit (.int _ k)), .v (.lit (.string a)), .v (.lit (.string b)), .v (.lit (.string c)), .v (.lit (.int _ m))] => ⟨term, time, false, pk d.client 50 + 1, 1 + pk d.off 100, k, a, b, c, m⟩
    | _ => ⟨0, 0, false, 0, 0, 0, ⟨#[]⟩, ⟨#[]⟩, ⟨#[]⟩, 0⟩
theorem itemOf_call (d : Deed) (term time : Int) : itemCall d.client d.off d.kind d.key d.field d.n d.text = [iC (itemOf d term time).client, iC (itemOf d term time).seq, iC (itemOf d term time).k, sC (itemOf d term time).key, sC (itemOf d term time).field, sC (itemOf d term time).text, iC (itemOf d term time).n] := by
  unfold itemCall itemOf
  split
  · rfl
  · simp [cmdOf]
theorem itemOf_head (d : Deed) (term time : Int) : (itemOf d term time).term = term ∧ (itemOf d term time).time = time ∧ (itemOf d term time).nop = decide (pk d.client 5 = 0) := by
  unfold itemOf
  split
  · exact ⟨rfl, rfl, rfl⟩
  · rename_i h
    have : ¬ pk d.client 5 = 0 := fun e => h (.inl e)
    simp [cmdOf, this]
noncomputable def itemsGo : List Deed → Int → Int → List Item
  | [], _, _ => []
  | d :: l, term, time => itemOf d (term + (pk d.off 4).tdiv 3) (time + pk d.wait 3) :: itemsGo l (term + (pk d.off 4).tdiv 3) (time + pk d.wait 3)
noncomputable def itemsOf (l : List Deed) (term : Int) : List Item := itemsGo (l.take 30) term 0
theorem itemsO_c (l : List Deed) (term : Int) (hl : (l.length : Int) ≤ 9223372036854775807) (hd : ∀ d ∈ l, d.Ok) (ht : 0 ≤ term ∧ term ≤ 1000) :
    DetCall Try.prog G 30 0 [] [.one (.v (.sl (l.map Deed.row))), iV term] (.one (.ar 0)) [some (.arr 31 10 ((itemsOf l term).map Item.row))] := by
  refine gcall mixed Try.func30 ok_rostrumkeep_items rs_rostrumkeep_items (by simp [Try.f30]) ?_
  unfold ac_rostrumkeep_items
  simp -dsimp [go_sem]
  refine awp_loop (fun x : Nat × Int × Int × List Item => ⟨[(0, .one (.v (.sl (l.map Deed.row)))), (1, iV x.2.1), (5, .one (.ar 0)), (6, iV x.2.2.1), (7, iV x.1)], G, [some (.arr 31 10 (x.2.2.2.map Item.row))]⟩)
    (fun x => x.1 ≤ 30 ∧ x.1 ≤ l.length ∧ x.2.2.2.length = x.1 ∧ 0 ≤ x.2.1 ∧ x.2.1 ≤ term + x.1 ∧ 0 ≤ x.2.2.1 ∧ x.2.2.1 ≤ 2 * x.1 ∧ x.2.2.2 ++ itemsGo ((l.take 30).drop x.1) x.2.1 x.2.2.1 = itemsOf l term)
    (fun x => 30 - x.1) (0, term, 0, []) (Weak.trans (weak_nil 5 31 10 ?_ (by omega)) (weak_auto ?_)) ?_ ?_
  · simp -dsimp [go_sem]
  · simp -dsimp [go_sem]
  · exact ⟨by omega, by simp, rfl, ht.1, by simp, by simp, by simp, by simp [itemsOf]⟩
  · rintro ⟨i, te, ti, acc⟩ ⟨a1, a2, a3, a4, a5, a6, a7, a8⟩
    simp only at a1 a2 a3 a4 a5 a6 a7 a8
    have hend : (l.take 30).length ≤ i → itemsOf l term = acc := by
      intro h
      rw [List.drop_eq_nil_of_le h] at a8
      simp only [itemsGo, List.append_nil] at a8
      exact a8.symm
    simp -dsimp [go_sem]
    refine Cnd.intro (fun h => ?_) (fun h => ?_)
    · have hlt : i < l.length := by simpa using h
      simp -dsimp [go_sem]
      refine Cnd.intro (fun h' => ?_) (fun h' => ?_)
      · have hlt' : i < 30 := by simp at h'; omega
        obtain ⟨d, hdi⟩ : ∃ d, l[i]? = some d := ⟨_, List.getElem?_eq_getElem hlt⟩
        have hgi : (l.map Deed.row)[i]? = some d.row := by simp [hdi]
        obtain ⟨o1, o2, o3, o4, o5, o6, o7⟩ := hd d (List.mem_of_getElem? hdi)
        have z0 : i64 0 := by unfold i64; omega
        have p1 : pk 0 1000 = 0 := by decide
        have p2 : pk 0 100000 = 0 := by decide
        have q1 := pk_range (n := d.off) (m := 4) (by omega)
        have q2 := pk_range (n := d.wait) (m := 3) (by omega)
        have q3 : 0 ≤ (pk d.off 4).tdiv 3 ∧ (pk d.off 4).tdiv 3 ≤ 1 := by
          rw [Int.tdiv_eq_ediv_of_nonneg q1.1]; omega
        have e1 : IntKind.i64.wrap ((pk d.off 4).tdiv 3) = (pk d.off 4).tdiv 3 := IntWalk.i64_in _ (by omega)
        have e2 : IntKind.i64.wrap (te + (pk d.off 4).tdiv 3) = te + (pk d.off 4).tdiv 3 := IntWalk.i64_in _ (by omega)
        have e3 : IntKind.i64.wrap (ti + pk d.wait 3) = ti + pk d.wait 3 := IntWalk.i64_in _ (by omega)
        have e4 : IntKind.i64.wrap ((i : Int) + 1) = (i : Int) + 1 := IntWalk.i64_in _ (by omega)
        have hI := itemOf_call d (te + (pk d.off 4).tdiv 3) (ti + pk d.wait 3)
        repeat' (first
    | (with_reducible refine Cnd.intro (fun h => ?_) (fun h => ?_))
    | (with_reducible refine And.intro ?_ ?_)
    | (with_reducible refine Wk.refl ?_)
    | (with_reducible exact Weak.refl _ _)
    | (with_reducible refine weak_auto ?_)
    | (with_reducible apply awp_join)
    | (with_reducible refine CallZ.l (PCall.kf (picked_c _ _ (by assumption) (by simp)) ?_ ?_))
    | (with_reducible refine PCall.kf (picked_c _ _ (by assumption) (by simp)) ?_ ?_)
    | (with_reducible refine PCall.df (picked_c _ _ (by assumption) (by simp)) ?_ ?_)
    | (with_reducible refine CallZ.l (PCall.kf (item_c _ _ _ _ _ _ _ _ _ _ (by assumption) (by assumption) (by assumption) (by assumption) (by assumption) (by assumption) (by assumption) (by assumption)) ?_ ?_))
    | (with_reducible refine PCall.kf (item_c _ _ _ _ _ _ _ _ _ _ (by assumption) (by assumption) (by assumption) (by assumption) (by assumption) (by assumption) (by assumption) (by assumption)) ?_ ?_)
    | (with_reducible refine PCall.df (item_c _ _ _ _ _ _ _ _ _ _ (by assumption) (by assumption) (by assumption) (by assumption) (by assumption) (by assumption) (by assumption) (by assumption)) ?_ ?_)
    | (with_reducible refine CallZ.l (PCall.kn (picked_c _ _ (by assumption) (by simp)) (by with_unfolding_all rfl) (by with_unfolding_all rfl) ?_))
    | (with_reducible refine PCall.kn (picked_c _ _ (by assumption) (by simp)) (by with_unfolding_all rfl) (by with_unfolding_all rfl) ?_)
    | (with_reducible refine PCall.dn (picked_c _ _ (by assumption) (by simp)) (by with_unfolding_all rfl) (by with_unfolding_all rfl) ?_)
    | (with_reducible refine CallZ.l (PCall.kn (item_c _ _ _ _ _ _ _ _ _ _ (by assumption) (by assumption) (by assumption) (by assumption) (by assumption) (by assumption) (by assumption) (by assumption)) (by with_unfolding_all rfl) (by with_unfolding_all rfl) ?_))
    | (with_reducible refine PCall.kn (item_c _ _ _ _ _ _ _ _ _ _ (by assumption) (by assumption) (by assumption) (by assumption) (by assumption) (by assumption) (by assumption) (by assumption)) (by with_unfolding_all rfl) (by with_unfolding_all rfl) ?_)
    | (with_reducible refine PCall.dn (item_c _ _ _ _ _ _ _ _ _ _ (by assumption) (by assumption) (by assumption) (by assumption) (by assumption) (by assumption) (by assumption) (by assumption)) (by with_unfolding_all rfl) (by with_unfolding_all rfl) ?_)
    | ((with_reducible refine PCall.dz (picked_c _ _ (by assumption) (by simp)) (by with_unfolding_all rfl) (by with_unfolding_all rfl) ?_); rotate_right; rintro zh1 zq1; (try simp -dsimp [go_sem] at zq1); obtain ⟨rfl⟩ := zq1)
    | ((with_reducible refine PCall.dz (item_c _ _ _ _ _ _ _ _ _ _ (by assumption) (by assumption) (by assumption) (by assumption) (by assumption) (by assumption) (by assumption) (by assumption)) (by with_unfolding_all rfl) (by with_unfolding_all rfl) ?_); rotate_right; rintro zh1 zq1; (try simp -dsimp [go_sem] at zq1); obtain ⟨rfl⟩ := zq1)
    | (with_reducible refine CallZ.z ?_)
    | (simp -dsimp [go_sem, Deed.row, hgi, hI, p1, p2, e1, e2, e3, e4]))
        all_goals (try omega)
        all_goals (try (simp [UL]; done))
        have hdrop : (l.take 30).drop i = d :: (l.take 30).drop (i + 1) := by
          have hi : i < (l.take 30).length := by simp; omega
          rw [List.drop_eq_getElem_cons hi]
          congr 1
          rw [List.getElem_take]
          rw [List.getElem?_eq_getElem hlt] at hdi
          exact Option.some.inj hdi
        obtain ⟨t1, t2, t3⟩ := itemOf_head d (te + (pk d.off 4).tdiv 3) (ti + pk d.wait 3)
        refine Again.auto (i + 1, te + (pk d.off 4).tdiv 3, ti + pk d.wait 3, acc ++ [itemOf d (te + (pk d.off 4).tdiv 3) (ti + pk d.wait 3)]) ?_ ⟨by simp; omega, by simp; omega, by simp [a3], by simp; omega, by simp; omega, by simp; omega, by simp; omega, ?_⟩ (by simp; omega)
        · simp -dsimp [go_sem, Item.row, t1, t2, t3, e1, e2, e3, e4]
        · rw [hdrop] at a8
          simp only [itemsGo] at a8
          simpa using a8
      · have : (l.take 30).length ≤ i := by simp at h' ⊢; omega
        rw [hend this]
        simp -dsimp [go_sem]
    · have : (l.take 30).length ≤ i := by simp at h ⊢; omega
      rw [hend this]
      simp -dsimp [go_sem]
theorem items_c (l : List Deed) (term : Int) (hl : (l.length : Int) ≤ 9223372036854775807) (hd : ∀ d ∈ l, d.Ok) (ht : 0 ≤ term ∧ term ≤ 1000) :
    PCall Try.prog G 30 [.one (.v (.sl (l.map Deed.row))), iV term] (.one (.v (.sl ((itemsOf l term).map Item.row)))) :=
  (itemsO_c l term hl hd ht).plain (by simp -dsimp [go_sem])
end Go.Proofs.Ytniihihcklpdgaa
