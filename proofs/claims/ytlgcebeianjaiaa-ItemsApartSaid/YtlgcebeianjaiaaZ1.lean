/- The function ItemsApart answers true. -/
import Derived.Test.YtlgcebeianjaiaaYr
import Derived.Test.YtlgcebeianjaiaaN
set_option linter.unusedVariables false
set_option linter.unusedSimpArgs false
set_option maxRecDepth 100000
set_option maxHeartbeats 8000000
namespace Go.Proofs.Ytlgcebeianjaiaa
open Go Go.RowKit Go.Proofs.AE
variable {G : Nat → AV}
theorem itemV_c (d : Deed) (hd : d.Ok) (term time : Int) (ht : i64 term) (hi : i64 time) :
    PCall Try.prog G 24 [.agg (d.row.map .v), iV term, iV time] (.agg ((itemOf d (1 + pk term 1000) (pk time 100000)).row.map .v)) := by
  obtain ⟨h1, h2, h3, h4, h5, h6, h7⟩ := hd
  have := item_c (G := G) d.client d.off d.wait d.kind d.key d.field d.n d.text term time h1 h2 h4 h5 h6 h7 ht hi
  obtain ⟨t1, t2, t3⟩ := itemOf_head d (1 + pk term 1000) (pk time 100000)
  have hI := itemOf_call d (1 + pk term 1000) (pk time 100000)
  simp only [hI] at this
  simp only [Item.row, List.map_cons, List.map_nil, t1, t2, t3, Deed.row]
  exact this
theorem itemV_ok (d : Deed) (hd : d.Ok) (term time : Int) : (itemOf d (1 + pk term 1000) (pk time 100000)).check = 0 := by
  have h1 := pk_range (n := term) (m := 1000) (by omega)
  have h2 := pk_range (n := time) (m := 100000) (by omega)
  exact itemOf_check d hd (by omega) (by omega)
theorem itemB_pos (x : Item) : 0 < (itemB x).length := by simp [itemB, numB_len]; omega
def itemSame (x y : Item) : Bool := (x.term == y.term) && ((x.time == y.time) && ((x.nop == y.nop) && ((x.client == y.client) && ((x.seq == y.seq) && ((x.k == y.k) && (decide (x.key = y.key) && (decide (x.field = y.field) && (decide (x.text = y.text) && (x.n == y.n)))))))))
theorem itemSame_iff (x y : Item) : itemSame x y = true ↔ x = y := by cases x; cases y; simp [itemSame]
theorem ba_eq {a b : List UInt8} : ((⟨a.toArray⟩ : ByteArray) = ⟨b.toArray⟩) ↔ a = b := by
  constructor
  · intro h
    have := congrArg (fun x : ByteArray => x.data.toList) h
    simpa using this
  · intro h; rw [h]
theorem itemsApart_c (a b : Deed) (t u : Int) (ha : a.Ok) (hb : b.Ok) (ht : i64 t) (hu : i64 u) : PCall Try.prog G 8 [.agg (a.row.map .v), .agg (b.row.map .v), iV t, iV u] (bV true) := by
  have i1 := itemV_c (G := G) a ha t u ht hu
  have i2 := itemV_c (G := G) b hb t u ht hu
  have k1 := itemV_ok a ha t u
  have k2 := itemV_ok b hb t u
  generalize itemOf a (1 + pk t 1000) (pk u 100000) = x at *
  generalize itemOf b (1 + pk t 1000) (pk u 100000) = y at *
  have e1 := encodeItem_c (G := G) x k1
  have e2 := encodeItem_c (G := G) y k2
  have hs : itemSame x y = decide (itemB x = itemB y) := by
    rw [Bool.eq_iff_iff, itemSame_iff, decide_eq_true_iff]
    exact ⟨fun h => by rw [h], itemB_inj k1 k2⟩
  have p1 := bR_bytes (itemB x)
  have p2 := bR_bytes (itemB y)
  have p3 := bR_len (itemB x)
  have p4 := itemB_pos x
  have p5 : decide ((0 : Int) < (itemB x).length) = true := by simp; omega
  unfold itemSame at hs
  simp only [Item.row, Deed.row, List.map_cons, List.map_nil] at i1 i2 e1 e2 ⊢
  refine pcall mixed Try.func8 ok_rostrumkeep_ItemsApart rs_rostrumkeep_ItemsApart (by simp [Try.f8]) ?_
  unfold ac_rostrumkeep_ItemsApart
  repeat' (first
    | (with_reducible refine Cnd.intro (fun h => ?_) (fun h => ?_))
    | (with_reducible refine And.intro ?_ ?_)
    | (with_reducible refine Wk.refl ?_)
    | (with_reducible exact Weak.refl _ _)
    | (with_reducible refine weak_auto ?_)
    | (with_reducible apply awp_join)
    | (with_reducible refine CallZ.l (PCall.kf (i1) ?_ ?_))
    | (with_reducible refine PCall.kf (i1) ?_ ?_)
    | (with_reducible refine PCall.df (i1) ?_ ?_)
    | (with_reducible refine CallZ.l (PCall.kf (i2) ?_ ?_))
    | (with_reducible refine PCall.kf (i2) ?_ ?_)
    | (with_reducible refine PCall.df (i2) ?_ ?_)
    | (with_reducible refine CallZ.l (PCall.kf (e1) ?_ ?_))
    | (with_reducible refine PCall.kf (e1) ?_ ?_)
    | (with_reducible refine PCall.df (e1) ?_ ?_)
    | (with_reducible refine CallZ.l (PCall.kf (e2) ?_ ?_))
    | (with_reducible refine PCall.kf (e2) ?_ ?_)
    | (with_reducible refine PCall.df (e2) ?_ ?_)
    | (with_reducible refine CallZ.l (PCall.kn (i1) (by with_unfolding_all rfl) (by with_unfolding_all rfl) ?_))
    | (with_reducible refine PCall.kn (i1) (by with_unfolding_all rfl) (by with_unfolding_all rfl) ?_)
    | (with_reducible refine PCall.dn (i1) (by with_unfolding_all rfl) (by with_unfolding_all rfl) ?_)
    | (with_reducible refine CallZ.l (PCall.kn (i2) (by with_unfolding_all rfl) (by with_unfolding_all rfl) ?_))
    | (with_reducible refine PCall.kn (i2) (by with_unfolding_all rfl) (by with_unfolding_all rfl) ?_)
    | (with_reducible refine PCall.dn (i2) (by with_unfolding_all rfl) (by with_unfolding_all rfl) ?_)
    | (with_reducible refine CallZ.l (PCall.kn (e1) (by with_unfolding_all rfl) (by with_unfolding_all rfl) ?_))
    | (with_reducible refine PCall.kn (e1) (by with_unfolding_all rfl) (by with_unfolding_all rfl) ?_)
    | (with_reducible refine PCall.dn (e1) (by with_unfolding_all rfl) (by with_unfolding_all rfl) ?_)
    | (with_reducible refine CallZ.l (PCall.kn (e2) (by with_unfolding_all rfl) (by with_unfolding_all rfl) ?_))
    | (with_reducible refine PCall.kn (e2) (by with_unfolding_all rfl) (by with_unfolding_all rfl) ?_)
    | (with_reducible refine PCall.dn (e2) (by with_unfolding_all rfl) (by with_unfolding_all rfl) ?_)
    | ((with_reducible refine PCall.dz (i1) (by with_unfolding_all rfl) (by with_unfolding_all rfl) ?_); rotate_right; rintro zh1 zq1; (try simp -dsimp [go_sem] at zq1); obtain ⟨rfl⟩ := zq1)
    | ((with_reducible refine PCall.dz (i2) (by with_unfolding_all rfl) (by with_unfolding_all rfl) ?_); rotate_right; rintro zh1 zq1; (try simp -dsimp [go_sem] at zq1); obtain ⟨rfl⟩ := zq1)
    | ((with_reducible refine PCall.dz (e1) (by with_unfolding_all rfl) (by with_unfolding_all rfl) ?_); rotate_right; rintro zh1 zq1; (try simp -dsimp [go_sem] at zq1); obtain ⟨rfl⟩ := zq1)
    | ((with_reducible refine PCall.dz (e2) (by with_unfolding_all rfl) (by with_unfolding_all rfl) ?_); rotate_right; rintro zh1 zq1; (try simp -dsimp [go_sem] at zq1); obtain ⟨rfl⟩ := zq1)
    | (with_reducible refine CallZ.z ?_)
    | (simp -dsimp [go_sem, p1, p2, p3, hs, ba_eq]))
  all_goals exact p4
end Go.Proofs.Ytlgcebeianjaiaa
