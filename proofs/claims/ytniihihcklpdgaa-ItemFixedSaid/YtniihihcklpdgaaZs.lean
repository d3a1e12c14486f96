/- The functions ItemBack, ItemTorn, ItemFixed answer true. -/
import Derived.Test.YtniihihcklpdgaaZr
import Derived.Test.YtniihihcklpdgaaN
import Derived.Test.YtniihihcklpdgaaW
set_option linter.unusedVariables false
set_option linter.unusedSimpArgs false
set_option maxRecDepth 100000
set_option maxHeartbeats 8000000
namespace Go.Proofs.Ytniihihcklpdgaa
open Go Go.RowKit Go.Proofs.AE
variable {G : Nat → AV}
theorem wf_u8 {n : Int} (h : (Lit.int .u8 n).wf = true) : 0 ≤ n ∧ n < 256 := by
  rw [Lit.wf] at h
  simp only [Bool.and_eq_true, decide_eq_true_eq] at h
  simp [IntKind.min, IntKind.max, IntKind.bits, IntKind.signed] at h
  omega
theorem itemV_c (d : Deed) (hd : d.Ok) (term time : Int) (ht : i64 term) (hi : i64 time) :
    PCall Try.prog G 17 [.agg (d.row.map .v), iV term, iV time] (.agg ((itemOf d (1 + pk term 1000) (pk time 100000)).row.map .v)) := by
  obtain ⟨h1, h2, h3, h4, h5, h6, h7⟩ := hd
  have := item_c (G := G) d.client d.off d.wait d.kind d.key d.field d.n d.text term time h1 h2 h4 h5 h6 h7 ht hi
  obtain ⟨t1, t2, t3⟩ := itemOf_head d (1 + pk term 1000) (pk time 100000)
  have hI := itemOf_call d (1 + pk term 1000) (pk time 100000)
  simp only [hI] at this
  simp only [Item.row, List.map_cons, List.map_nil, t1, t2, t3, Deed.row]
  exact this
theorem itemV_ok (d : Deed) (hd : d.Ok) (term time : Int) : (itemOf d (1 + pk term 1000) (pk time 100000)).check = 0 := by
  have h1 := pk_range (n := term) (m := 1000) (by omega)
  have h2 := pk_range (n := time) (m := 100000) (by omega)
  exact itemOf_check d hd (by omega) (by omega)
theorem itemB_pos (x : Item) : 0 < (itemB x).length := by simp [itemB, numB_len]; omega
theorem itemB_short {x : Item} (h : x.check = 0) : (itemB x).length ≤ 200 := by
  obtain ⟨_, _, _, _, _, h6⟩ := item_ok h
  unfold itemB
  cases x.nop
  · simp only [Bool.false_eq_true, if_false, List.length_append, numB_len, callB, List.length_cons, List.length_nil]
    split
    · rename_i hp
      rcases h6 with ⟨c1, _⟩ | ⟨_, _, _, _, c5⟩
      · omega
      · have hb := cmd_bounds c5
        simp only [cmdB, List.length_append, textB_len, numB_len, List.length_cons, List.length_nil]
        omega
    · simp
  · simp [numB_len]
theorem dec_back {x : Item} (h : x.check = 0) : decItem (itemB x) = (x, 0) := by
  have hl := itemB_short h
  have hr := itemR_app h []
  rw [List.append_nil] at hr
  unfold decItem
  rw [if_neg (by omega), hr]
  simp [h]
theorem dec_more {x : Item} (h : x.check = 0) (t : UInt8) : decItem (itemB x ++ [t]) = (zeroItem, 8) := by
  have hl := itemB_short h
  have hr := itemR_app h [t]
  unfold decItem
  rw [if_neg (by simp; omega), hr]
  simp
def itemSame (x y : Item) : Bool := (x.term == y.term) && ((x.time == y.time) && ((x.nop == y.nop) && ((x.client == y.client) && ((x.seq == y.seq) && ((x.k == y.k) && (decide (x.key = y.key) && (decide (x.field = y.field) && (decide (x.text = y.text) && (x.n == y.n)))))))))
theorem itemSame_iff (x y : Item) : itemSame x y = true ↔ x = y := by cases x; cases y; simp [itemSame]
theorem ba_eq {a b : List UInt8} : ((⟨a.toArray⟩ : ByteArray) = ⟨b.toArray⟩) ↔ a = b := by
  constructor
  · intro h
    have := congrArg (fun x : ByteArray => x.data.toList) h
    simpa using this
  · intro h; rw [h]
theorem byteRow (t : Int) (h : 0 ≤ t ∧ t < 256) (l : List UInt8) : bR l ++ [[.lit (.int .u8 t)]] = bR (l ++ [UInt8.ofNat t.toNat]) := by
  rw [bR_app]
  congr 1
  simp only [bR, List.map_cons, List.map_nil, UInt8.toNat_ofNat']
  rw [show ((t.toNat % 2 ^ 8 : Nat) : Int) = t by omega]
theorem decodeR_c (rows : List (List V)) (l : List UInt8) (h : rows = bR l) : PCall Try.prog G 31 [.one (.v (.sl rows))] (.tup [.agg ((decItem l).1.row.map .v), iV (decItem l).2]) := by subst h; exact decodeItem_c l
theorem itemBack_c (d : Deed) (term time tail : Int) (hd : d.Ok) (ht : i64 term) (hi : i64 time) (hb : 0 ≤ tail ∧ tail < 256) :
    PCall Try.prog G 14 [.agg (d.row.map .v), iV term, iV time, .one (.v (.lit (.int .u8 tail)))] (bV true) := by
  have i1 := itemV_c (G := G) d hd term time ht hi
  have k1 := itemV_ok d hd term time
  generalize itemOf d (1 + pk term 1000) (pk time 100000) = x at *
  have e1 := encodeItem_c (G := G) x k1
  have d1 := decodeItem_c (G := G) (itemB x)
  rw [dec_back k1] at d1
  have d2 := decodeR_c (G := G) (bR (itemB x) ++ [[.lit (.int .u8 tail)]]) _ (byteRow tail hb _)
  rw [dec_more k1] at d2
  have c1 := checkItemV_c (G := G) x
  rw [k1] at c1
  have hs : itemSame x x = true := (itemSame_iff _ _).2 rfl
  have u1 := bR_ul (itemB x)
  have u2 := bR_len (itemB x)
  have u3 := itemB_short k1
  simp only [Item.row, Deed.row, List.map_cons, List.map_nil, zeroItem] at i1 e1 d1 d2 c1 ⊢
  refine pcall mixed Try.func14 ok_rostrumkeep_ItemBack rs_rostrumkeep_ItemBack (by simp [Try.f14]) ?_
  unfold ac_rostrumkeep_ItemBack
  repeat' (first
    | (with_reducible refine Cnd.intro (fun h => ?_) (fun h => ?_))
    | (with_reducible refine And.intro ?_ ?_)
    | (with_reducible refine Wk.refl ?_)
    | (with_reducible exact Weak.refl _ _)
    | (with_reducible refine weak_auto ?_)
    | (with_reducible apply awp_join)
    | (with_reducible refine CallZ.l (PCall.kf (i1) ?_ ?_))
    | (with_reducible refine PCall.kf (i1) ?_ ?_)
    | (with_reducible refine PCall.df (i1) ?_ ?_)
    | (with_reducible refine CallZ.l (PCall.kf (e1) ?_ ?_))
    | (with_reducible refine PCall.kf (e1) ?_ ?_)
    | (with_reducible refine PCall.df (e1) ?_ ?_)
    | (with_reducible refine CallZ.l (PCall.kf (d1) ?_ ?_))
    | (with_reducible refine PCall.kf (d1) ?_ ?_)
    | (with_reducible refine PCall.df (d1) ?_ ?_)
    | (with_reducible refine CallZ.l (PCall.kf (d2) ?_ ?_))
    | (with_reducible refine PCall.kf (d2) ?_ ?_)
    | (with_reducible refine PCall.df (d2) ?_ ?_)
    | (with_reducible refine CallZ.l (PCall.kf (c1) ?_ ?_))
    | (with_reducible refine PCall.kf (c1) ?_ ?_)
    | (with_reducible refine PCall.df (c1) ?_ ?_)
    | (with_reducible refine CallZ.l (PCall.kn (i1) (by with_unfolding_all rfl) (by with_unfolding_all rfl) ?_))
    | (with_reducible refine PCall.kn (i1) (by with_unfolding_all rfl) (by with_unfolding_all rfl) ?_)
    | (with_reducible refine PCall.dn (i1) (by with_unfolding_all rfl) (by with_unfolding_all rfl) ?_)
    | (with_reducible refine CallZ.l (PCall.kn (e1) (by with_unfolding_all rfl) (by with_unfolding_all rfl) ?_))
    | (with_reducible refine PCall.kn (e1) (by with_unfolding_all rfl) (by with_unfolding_all rfl) ?_)
    | (with_reducible refine PCall.dn (e1) (by with_unfolding_all rfl) (by with_unfolding_all rfl) ?_)
    | (with_reducible refine CallZ.l (PCall.kn (d1) (by with_unfolding_all rfl) (by with_unfolding_all rfl) ?_))
    | (with_reducible refine PCall.kn (d1) (by with_unfolding_all rfl) (by with_unfolding_all rfl) ?_)
    | (with_reducible refine PCall.dn (d1) (by with_unfolding_all rfl) (by with_unfolding_all rfl) ?_)
    | (with_reducible refine CallZ.l (PCall.kn (d2) (by with_unfolding_all rfl) (by with_unfolding_all rfl) ?_))
    | (with_reducible refine PCall.kn (d2) (by with_unfolding_all rfl) (by with_unfolding_all rfl) ?_)
    | (with_reducible refine PCall.dn (d2) (by with_unfolding_all rfl) (by with_unfolding_all rfl) ?_)
    | (with_reducible refine CallZ.l (PCall.kn (c1) (by with_unfolding_all rfl) (by with_unfolding_all rfl) ?_))
    | (with_reducible refine PCall.kn (c1) (by with_unfolding_all rfl) (by with_unfolding_all rfl) ?_)
    | (with_reducible refine PCall.dn (c1) (by with_unfolding_all rfl) (by with_unfolding_all rfl) ?_)
    | ((with_reducible refine PCall.dz (i1) (by with_unfolding_all rfl) (by with_unfolding_all rfl) ?_); rotate_right; rintro zh1 zq1; (try simp -dsimp [go_sem] at zq1); obtain ⟨rfl⟩ := zq1)
    | ((with_reducible refine PCall.dz (e1) (by with_unfolding_all rfl) (by with_unfolding_all rfl) ?_); rotate_right; rintro zh1 zq1; (try simp -dsimp [go_sem] at zq1); obtain ⟨rfl⟩ := zq1)
    | ((with_reducible refine PCall.dz (d1) (by with_unfolding_all rfl) (by with_unfolding_all rfl) ?_); rotate_right; rintro zh1 zq1; (try simp -dsimp [go_sem] at zq1); obtain ⟨rfl⟩ := zq1)
    | ((with_reducible refine PCall.dz (d2) (by with_unfolding_all rfl) (by with_unfolding_all rfl) ?_); rotate_right; rintro zh1 zq1; (try simp -dsimp [go_sem] at zq1); obtain ⟨rfl⟩ := zq1)
    | ((with_reducible refine PCall.dz (c1) (by with_unfolding_all rfl) (by with_unfolding_all rfl) ?_); rotate_right; rintro zh1 zq1; (try simp -dsimp [go_sem] at zq1); obtain ⟨rfl⟩ := zq1)
    | (with_reducible refine CallZ.z ?_)
    | (simp -dsimp [go_sem, u1, u2]))
  all_goals first | omega | (simp [UL]; done) | skip
/-! ### what is torn -/
theorem takeR_short (l : List UInt8) (n : Nat) : (takeR ⟨l, true⟩ n).2.short = true := by simp [takeR]
theorem takeR_ext {l1 : List UInt8} (l2 : List UInt8) {n : Nat} (h : (takeR ⟨l1, false⟩ n).2.short = false) : takeR ⟨l1 ++ l2, false⟩ n = ((takeR ⟨l1, false⟩ n).1, ⟨(takeR ⟨l1, false⟩ n).2.rest ++ l2, false⟩) := by
  unfold takeR at h ⊢
  split at h
  · cases h
  · rename_i h1
    have h2 : ¬ l1.length < n := by simpa using h1
    rw [if_neg (by simp; omega), if_neg h1]
    simp only
    rw [List.take_append_of_le_length (by omega), List.drop_append_of_le_length (by omega)]
/-- Reading on: once short, always short; what is read of the beginning is read of the whole. -/
structure Reads {α : Type} (f : Rd → α × Rd) : Prop where
  stuck : ∀ l, (f ⟨l, true⟩).2.short = true
  ext : ∀ l1 l2, (f ⟨l1, false⟩).2.short = false → f ⟨l1 ++ l2, false⟩ = ((f ⟨l1, false⟩).1, ⟨(f ⟨l1, false⟩).2.rest ++ l2, false⟩)
theorem Reads.take (n : Nat) : Reads (fun r => takeR r n) := ⟨fun l => takeR_short l n, fun l1 l2 h => takeR_ext l2 h⟩
theorem Reads.map {α β : Type} {f : Rd → α × Rd} (h : Reads f) (g : α → β) : Reads (fun r => (g (f r).1, (f r).2)) :=
  ⟨fun l => h.stuck l, fun l1 l2 hs => by
    have := h.ext l1 l2 hs
    simp only [this]⟩
theorem Reads.bind {α β γ : Type} {f : Rd → α × Rd} {g : α → Rd → β × Rd} (c : α → β → γ) (h : Reads f) (hg : ∀ a, Reads (g a)) : Reads (fun r => (c (f r).1 (g (f r).1 (f r).2).1, (g (f r).1 (f r).2).2)) := by
  refine ⟨fun l => ?_, fun l1 l2 hs => ?_⟩
  · have h1 := h.stuck l
    generalize f ⟨l, true⟩ = p at *
    obtain ⟨a, r, s⟩ := p
    simp only at h1 ⊢
    subst h1
    exact (hg a).stuck r
  · simp only at hs ⊢
    have h1 : (f ⟨l1, false⟩).2.short = false := by
      cases hq : (f ⟨l1, false⟩).2.short with
      | false => rfl
      | true =>
        generalize f ⟨l1, false⟩ = p at *
        obtain ⟨a, r, s⟩ := p
        simp only at hq hs
        subst hq
        rw [(hg a).stuck r] at hs; cases hs
    rw [h.ext l1 l2 h1]
    generalize f ⟨l1, false⟩ = p at *
    obtain ⟨a, r, s⟩ := p
    simp only at h1 hs ⊢
    subst h1
    rw [(hg a).ext r l2 hs]
theorem reads_num : Reads numR := (Reads.take 8).map numOf
theorem reads_small : Reads smallR := (Reads.take 1).map fun l => match l with | c :: _ => c.toNat | [] => 0
theorem reads_text : Reads textR := Reads.bind (f := smallR) (g := fun n r => takeR r n) (fun _ b => (⟨b.toArray⟩ : ByteArray)) reads_small fun n => Reads.take n
theorem reads_cmd : Reads cmdR := by
  have h1 : Reads (fun r => let a := textR r; let e := numR a.2; ((a.1, e.1), e.2)) := Reads.bind (g := fun _ r => numR r) (fun a b => (a, b)) reads_text fun _ => reads_num
  have h2 : Reads (fun r => let a := textR r; let b := textR a.2; let e := numR b.2; ((a.1, b.1, e.1), e.2)) := Reads.bind (g := fun _ r => let a := textR r; let e := numR a.2; ((a.1, e.1), e.2)) (fun a b => (a, b.1, b.2)) reads_text fun _ => h1
  have h3 : Reads (fun r => let z := textR r; let a := textR z.2; let b := textR a.2; let e := numR b.2; ((z.1, a.1, b.1, e.1), e.2)) := Reads.bind (g := fun _ r => let a := textR r; let b := textR a.2; let e := numR b.2; ((a.1, b.1, e.1), e.2)) (fun a b => (a, b.1, b.2.1, b.2.2)) reads_text fun _ => h2
  exact Reads.bind (g := fun _ r => let z := textR r; let a := textR z.2; let b := textR a.2; let e := numR b.2; ((z.1, a.1, b.1, e.1), e.2)) (fun (k : Nat) b => (⟨(k : Int), b.1, b.2.1, b.2.2.1, b.2.2.2⟩ : Cmd)) reads_small fun _ => h3
theorem Reads.pure {α : Type} (a : α) : Reads (fun r => (a, r)) := ⟨fun _ => rfl, fun _ _ _ => rfl⟩
theorem reads_call : Reads callR := by
  have h1 : ∀ a : Int, Reads (fun r => if a = 0 then (((0, 0, ⟨0, ⟨#[]⟩, ⟨#[]⟩, ⟨#[]⟩, 0⟩) : Int × Int × Cmd), r) else ((a, (numR r).1, (cmdR (numR r).2).1), (cmdR (numR r).2).2)) := by
    intro a
    by_cases h : a = 0
    · simp only [h, if_true]; exact Reads.pure _
    · simp only [h, if_false]
      exact Reads.bind (g := fun _ r => cmdR r) (fun b c => (a, b, c)) reads_num fun _ => reads_cmd
  have h2 := Reads.bind (fun _ b => b) reads_num h1
  have he : callR = (fun r => ((if (numR r).1 = 0 then (((0, 0, ⟨0, ⟨#[]⟩, ⟨#[]⟩, ⟨#[]⟩, 0⟩) : Int × Int × Cmd), (numR r).2) else (((numR r).1, (numR (numR r).2).1, (cmdR (numR (numR r).2).2).1), (cmdR (numR (numR r).2).2).2)).1, (if (numR r).1 = 0 then (((0, 0, ⟨0, ⟨#[]⟩, ⟨#[]⟩, ⟨#[]⟩, 0⟩) : Int × Int × Cmd), (numR r).2) else (((numR r).1, (numR (numR r).2).1, (cmdR (numR (numR r).2).2).1), (cmdR (numR (numR r).2).2).2)).2)) := by
    funext r
    simp only [callR]
  rw [he]
  exact h2
theorem reads_item : Reads (fun r => (((itemR r).1, (itemR r).2.1), (itemR r).2.2)) := by
  have h3 : ∀ (t m : Int) (c : Nat), Reads (fun r => if c = 0 then (((⟨t, m, false, (callR r).1.1, (callR r).1.2.1, (callR r).1.2.2.k, (callR r).1.2.2.key, (callR r).1.2.2.field, (callR r).1.2.2.text, (callR r).1.2.2.n⟩, true) : Item × Bool), (callR r).2)
      else (((⟨t, m, decide (c = 1), 0, 0, 0, ⟨#[]⟩, ⟨#[]⟩, ⟨#[]⟩, 0⟩, decide (c = 1)) : Item × Bool), r)) := by
    intro t m c
    by_cases h : c = 0
    · simp only [h, if_true]
      exact reads_call.map fun q => ((⟨t, m, false, q.1, q.2.1, q.2.2.k, q.2.2.key, q.2.2.field, q.2.2.text, q.2.2.n⟩, true) : Item × Bool)
    · simp only [h, if_false]; exact Reads.pure _
  have h2 := fun t m => Reads.bind (fun _ b => b) reads_small (h3 t m)
  have h1 := fun t => Reads.bind (fun _ b => b) reads_num (h2 t)
  have h0 := Reads.bind (fun _ b => b) reads_num h1
  refine cast (congrArg Reads ?_) h0
  funext r
  simp only [itemR]
  split <;> rfl
theorem dec_torn {x : Item} (h : x.check = 0) {k : Nat} (hk : k < (itemB x).length) : decItem ((itemB x).take k) = (zeroItem, 9) := by
  have hl := itemB_short h
  have hs : (itemR ⟨(itemB x).take k, false⟩).2.2.short = true := by
    cases hq : (itemR ⟨(itemB x).take k, false⟩).2.2.short with
    | true => rfl
    | false =>
      exfalso
      have h1 := reads_item.ext ((itemB x).take k) ((itemB x).drop k) hq
      rw [List.take_append_drop] at h1
      have h2 := itemR_app h []
      rw [List.append_nil] at h2
      simp only [h2] at h1
      have h3 := congrArg (fun p => p.2.rest) h1
      simp only at h3
      have h4 := congrArg List.length h3
      simp at h4
      omega
  unfold decItem
  rw [if_neg (by simp; omega)]
  simp only [hs, if_true]
theorem itemTorn_c (d : Deed) (term at' : Int) (hd : d.Ok) (ht : i64 term) (ha : i64 at') :
    PCall Try.prog G 16 [.agg (d.row.map .v), iV term, iV at'] (bV true) := by
  have i1 := itemV_c (G := G) d hd term 5 ht (by unfold i64; omega)
  have k1 := itemV_ok d hd term 5
  generalize itemOf d (1 + pk term 1000) (pk 5 100000) = x at *
  have e1 := encodeItem_c (G := G) x k1
  have u1 := bR_ul (itemB x)
  have u2 := bR_len (itemB x)
  have u3 := itemB_short k1
  have u4 := itemB_pos x
  have hm : (if ((itemB x).length : Int) < 1 then 1 else ((itemB x).length : Int)) = (itemB x).length := if_neg (by omega)
  have hk := pk_range (n := at') (m := (itemB x).length) (by omega)
  obtain ⟨k, hk'⟩ : ∃ k : Nat, pk at' (itemB x).length = k := ⟨(pk at' (itemB x).length).toNat, by omega⟩
  rw [hk'] at hk
  have d1 := decodeR_c (G := G) ((bR (itemB x)).take k) _ (bR_take _ _)
  rw [dec_torn k1 (by omega)] at d1
  have q0 : ((itemB x).length : Int) ≠ 0 := by omega
  simp only [Item.row, Deed.row, List.map_cons, List.map_nil, zeroItem] at i1 e1 d1 ⊢
  refine pcall mixed Try.func16 ok_rostrumkeep_ItemTorn rs_rostrumkeep_ItemTorn (by simp [Try.f16]) ?_
  unfold ac_rostrumkeep_ItemTorn
  repeat' (first
    | (with_reducible refine Cnd.intro (fun h => ?_) (fun h => ?_))
    | (with_reducible refine And.intro ?_ ?_)
    | (with_reducible refine Wk.refl ?_)
    | (with_reducible exact Weak.refl _ _)
    | (with_reducible refine weak_auto ?_)
    | (with_reducible apply awp_join)
    | (with_reducible refine CallZ.l (PCall.kf (i1) ?_ ?_))
    | (with_reducible refine PCall.kf (i1) ?_ ?_)
    | (with_reducible refine PCall.df (i1) ?_ ?_)
    | (with_reducible refine CallZ.l (PCall.kf (e1) ?_ ?_))
    | (with_reducible refine PCall.kf (e1) ?_ ?_)
    | (with_reducible refine PCall.df (e1) ?_ ?_)
    | (with_reducible refine CallZ.l (PCall.kf (d1) ?_ ?_))
    | (with_reducible refine PCall.kf (d1) ?_ ?_)
    | (with_reducible refine PCall.df (d1) ?_ ?_)
    | (with_reducible refine CallZ.l (PCall.kf (picked_c _ _ ha q0) ?_ ?_))
    | (with_reducible refine PCall.kf (picked_c _ _ ha q0) ?_ ?_)
    | (with_reducible refine PCall.df (picked_c _ _ ha q0) ?_ ?_)
    | (with_reducible refine CallZ.l (PCall.kn (i1) (by with_unfolding_all rfl) (by with_unfolding_all rfl) ?_))
    | (with_reducible refine PCall.kn (i1) (by with_unfolding_all rfl) (by with_unfolding_all rfl) ?_)
    | (with_reducible refine PCall.dn (i1) (by with_unfolding_all rfl) (by with_unfolding_all rfl) ?_)
    | (with_reducible refine CallZ.l (PCall.kn (e1) (by with_unfolding_all rfl) (by with_unfolding_all rfl) ?_))
    | (with_reducible refine PCall.kn (e1) (by with_unfolding_all rfl) (by with_unfolding_all rfl) ?_)
    | (with_reducible refine PCall.dn (e1) (by with_unfolding_all rfl) (by with_unfolding_all rfl) ?_)
    | (with_reducible refine CallZ.l (PCall.kn (d1) (by with_unfolding_all rfl) (by with_unfolding_all rfl) ?_))
    | (with_reducible refine PCall.kn (d1) (by with_unfolding_all rfl) (by with_unfolding_all rfl) ?_)
    | (with_reducible refine PCall.dn (d1) (by with_unfolding_all rfl) (by with_unfolding_all rfl) ?_)
    | (with_reducible refine CallZ.l (PCall.kn (picked_c _ _ ha q0) (by with_unfolding_all rfl) (by with_unfolding_all rfl) ?_))
    | (with_reducible refine PCall.kn (picked_c _ _ ha q0) (by with_unfolding_all rfl) (by with_unfolding_all rfl) ?_)
    | (with_reducible refine PCall.dn (picked_c _ _ ha q0) (by with_unfolding_all rfl) (by with_unfolding_all rfl) ?_)
    | ((with_reducible refine PCall.dz (i1) (by with_unfolding_all rfl) (by with_unfolding_all rfl) ?_); rotate_right; rintro zh1 zq1; (try simp -dsimp [go_sem] at zq1); obtain ⟨rfl⟩ := zq1)
    | ((with_reducible refine PCall.dz (e1) (by with_unfolding_all rfl) (by with_unfolding_all rfl) ?_); rotate_right; rintro zh1 zq1; (try simp -dsimp [go_sem] at zq1); obtain ⟨rfl⟩ := zq1)
    | ((with_reducible refine PCall.dz (d1) (by with_unfolding_all rfl) (by with_unfolding_all rfl) ?_); rotate_right; rintro zh1 zq1; (try simp -dsimp [go_sem] at zq1); obtain ⟨rfl⟩ := zq1)
    | ((with_reducible refine PCall.dz (picked_c _ _ ha q0) (by with_unfolding_all rfl) (by with_unfolding_all rfl) ?_); rotate_right; rintro zh1 zq1; (try simp -dsimp [go_sem] at zq1); obtain ⟨rfl⟩ := zq1)
    | (with_reducible refine CallZ.z ?_)
    | (simp -dsimp [go_sem, u1, u2, hm, hk']))
  all_goals first | omega | (simp [UL]; done) | skip
/-! ### no two forms -/
theorem numB_numOf {b : List UInt8} (hb : b.length = 8) (h : inNum (numOf b)) : numB (numOf b) = b := by
  have hu := uOf_lt b
  have e : ((uOf b : Nat) : Int) - 4611686018427387904 = numOf b := by
    unfold numOf at h ⊢
    unfold inNum at h
    have hw : IntKind.i64.wrap ((uOf b : Int) - 4611686018427387904) = (uOf b : Int) - 4611686018427387904 ∨ IntKind.i64.wrap ((uOf b : Int) - 4611686018427387904) = (uOf b : Int) - 4611686018427387904 - 18446744073709551616 := by
      by_cases hlt : (uOf b : Int) - 4611686018427387904 ≤ 9223372036854775807
      · left; exact IntWalk.i64_in _ (by omega)
      · right
        simp [IntKind.wrap, IntKind.bits, IntKind.signed]
        omega
    omega
  have hn : numU (numOf b) = uOf b := by unfold numU; omega
  unfold numB
  rw [hn]
  match b, hb with
  | [b7, b6, b5, b4, b3, b2, b1, b0], _ =>
    have l7 := b7.toNat_lt; have l6 := b6.toNat_lt; have l5 := b5.toNat_lt; have l4 := b4.toNat_lt
    have l3 := b3.toNat_lt; have l2 := b2.toNat_lt; have l1 := b1.toNat_lt; have l0 := b0.toNat_lt
    have hU : uOf [b7, b6, b5, b4, b3, b2, b1, b0] = ((((((b7.toNat * 256 + b6.toNat) * 256 + b5.toNat) * 256 + b4.toNat) * 256 + b3.toNat) * 256 + b2.toNat) * 256 + b1.toNat) * 256 + b0.toNat := by
      simp only [uOf, List.foldl_cons, List.foldl_nil]
      omega
    rw [hU]
    have key : ∀ (u s : Nat) (c : UInt8), u / 2 ^ s % 256 = c.toNat → byteAt' u s = c := by
      intro u s c h
      apply UInt8.toNat_inj.1
      unfold byteAt'
      rw [UInt8.toNat_ofNat']; omega
    rw [key _ 56 b7 (by omega), key _ 48 b6 (by omega), key _ 40 b5 (by omega), key _ 32 b4 (by omega), key _ 24 b3 (by omega), key _ 16 b2 (by omega), key _ 8 b1 (by omega), key _ 0 b0 (by omega)]
theorem take_eats {l : List UInt8} {n : Nat} (h : (takeR ⟨l, false⟩ n).2.short = false) : (takeR ⟨l, false⟩ n).1.length = n ∧ l = (takeR ⟨l, false⟩ n).1 ++ (takeR ⟨l, false⟩ n).2.rest := by
  unfold takeR at h ⊢
  split at h
  · cases h
  · rename_i h1
    rw [if_neg h1]
    have h2 : ¬ l.length < n := by simpa using h1
    exact ⟨by simp; omega, (List.take_append_drop n l).symm⟩
theorem num_eats {l : List UInt8} (h : (numR ⟨l, false⟩).2.short = false) (hn : inNum (numR ⟨l, false⟩).1) : l = numB (numR ⟨l, false⟩).1 ++ (numR ⟨l, false⟩).2.rest := by
  unfold numR at h hn ⊢
  obtain ⟨h1, h2⟩ := take_eats h
  rw [numB_numOf h1 hn]
  exact h2
theorem small_eats {l : List UInt8} (h : (smallR ⟨l, false⟩).2.short = false) : l = smallB (smallR ⟨l, false⟩).1 :: (smallR ⟨l, false⟩).2.rest ∧ (smallR ⟨l, false⟩).1 < 256 := by
  unfold smallR at h ⊢
  obtain ⟨h1, h2⟩ := take_eats h
  generalize takeR ⟨l, false⟩ 1 = p at *
  obtain ⟨b, r⟩ := p
  simp only at h1 h2 ⊢
  match b, h1 with
  | [c], _ =>
    have := c.toNat_lt
    simp only
    refine ⟨?_, this⟩
    have hc : smallB (c.toNat : Int) = c := by
      apply UInt8.toNat_inj.1
      rw [smallB_toNat (by omega) (by omega)]
      simp
    rw [hc]; exact h2
theorem text_eats {l : List UInt8} (h : (textR ⟨l, false⟩).2.short = false) : l = textB (textR ⟨l, false⟩).1 ++ (textR ⟨l, false⟩).2.rest := by
  unfold textR at h ⊢
  have hs : (smallR ⟨l, false⟩).2.short = false := by
    cases hq : (smallR ⟨l, false⟩).2.short with
    | false => rfl
    | true =>
      generalize smallR ⟨l, false⟩ = p at *
      obtain ⟨a, r, s⟩ := p
      simp only at hq h
      subst hq
      rw [takeR_short] at h; cases h
  obtain ⟨h1, h2⟩ := small_eats hs
  generalize smallR ⟨l, false⟩ = p at *
  obtain ⟨n, r, s⟩ := p
  simp only at hs h h1 h2 ⊢
  subst hs
  obtain ⟨h3, h4⟩ := take_eats h
  unfold textB
  have h5 : ((⟨(takeR ⟨r, false⟩ n).1.toArray⟩ : ByteArray).size : Int) = n := by
    show (((takeR ⟨r, false⟩ n).1.toArray.size : Nat) : Int) = n
    simp [h3]
  rw [h5, h1]
  simp only [List.cons_append]
  congr 1
theorem num_eats' {r : Rd} (h : (numR r).2.short = false) (hn : inNum (numR r).1) : r.short = false ∧ r.rest = numB (numR r).1 ++ (numR r).2.rest := by
  obtain ⟨l, s⟩ := r
  cases s with
  | true => rw [reads_num.stuck l] at h; cases h
  | false => exact ⟨rfl, num_eats h hn⟩
theorem small_eats' {r : Rd} (h : (smallR r).2.short = false) : r.short = false ∧ r.rest = smallB (smallR r).1 :: (smallR r).2.rest ∧ (smallR r).1 < 256 := by
  obtain ⟨l, s⟩ := r
  cases s with
  | true => rw [reads_small.stuck l] at h; cases h
  | false => exact ⟨rfl, small_eats h⟩
theorem text_eats' {r : Rd} (h : (textR r).2.short = false) : r.short = false ∧ r.rest = textB (textR r).1 ++ (textR r).2.rest := by
  obtain ⟨l, s⟩ := r
  cases s with
  | true => rw [reads_text.stuck l] at h; cases h
  | false => exact ⟨rfl, text_eats h⟩
theorem cmd_eats' {r : Rd} (h : (cmdR r).2.short = false) (hn : inNum (cmdR r).1.n) : r.short = false ∧ r.rest = cmdB (cmdR r).1.k (cmdR r).1.key (cmdR r).1.field (cmdR r).1.text (cmdR r).1.n ++ (cmdR r).2.rest := by
  simp only [cmdR] at h hn ⊢
  obtain ⟨a4, b4⟩ := num_eats' h hn
  obtain ⟨a3, b3⟩ := text_eats' a4
  obtain ⟨a2, b2⟩ := text_eats' a3
  obtain ⟨a1, b1⟩ := text_eats' a2
  obtain ⟨a0, b0, _⟩ := small_eats' a1
  refine ⟨a0, ?_⟩
  unfold cmdB
  rw [b0, b1, b2, b3, b4]
  simp
theorem call_eats' {r : Rd} (h : (callR r).2.short = false) (hc : 0 ≤ (callR r).1.1 ∧ inNum (callR r).1.1) (hs : inNum (callR r).1.2.1) (hn : inNum (callR r).1.2.2.n) :
    r.short = false ∧ r.rest = callB (callR r).1.1 (callR r).1.2.1 (callR r).1.2.2.k (callR r).1.2.2.key (callR r).1.2.2.field (callR r).1.2.2.text (callR r).1.2.2.n ++ (callR r).2.rest := by
  unfold callR at h hc hs hn ⊢
  by_cases h0 : (numR r).1 = 0
  · simp only [h0, if_true] at h hc hs hn ⊢
    obtain ⟨a, b⟩ := num_eats' h (by rw [h0]; exact hc.2)
    refine ⟨a, ?_⟩
    rw [b, h0]
    simp [callB]
  · simp only [h0, if_false] at h hc hs hn ⊢
    obtain ⟨a2, b2⟩ := cmd_eats' h hn
    obtain ⟨a1, b1⟩ := num_eats' a2 hs
    obtain ⟨a0, b0⟩ := num_eats' a1 hc.2
    refine ⟨a0, ?_⟩
    unfold callB
    rw [if_pos (by omega), b0, b1, b2]
    simp
theorem item_eats {l : List UInt8} (h : (itemR ⟨l, false⟩).2.2.short = false) (hok : (itemR ⟨l, false⟩).2.1 = true) (hr : (itemR ⟨l, false⟩).2.2.rest = []) (hc : (itemR ⟨l, false⟩).1.check = 0) : itemB (itemR ⟨l, false⟩).1 = l := by
  obtain ⟨_, _, _, c4, c5, c6, c7, c8⟩ := item_bounds hc
  obtain ⟨_, _, _, _, _, h6⟩ := item_ok hc
  have hpos : 0 ≤ (itemR ⟨l, false⟩).1.client := by rcases h6 with ⟨a, _⟩ | ⟨a, _⟩ <;> omega
  clear h6 hc
  unfold itemR at h hok hr hpos c4 c5 c6 c7 c8 ⊢
  by_cases h0 : (smallR (numR (numR ⟨l, false⟩).2).2).1 = 0
  · simp only [h0, if_true] at h hok hr hpos c4 c5 c6 c7 c8 ⊢
    obtain ⟨a3, b3⟩ := call_eats' h ⟨hpos, c5⟩ c6 c4
    obtain ⟨a2, b2, _⟩ := small_eats' a3
    obtain ⟨a1, b1⟩ := num_eats' a2 c8
    obtain ⟨a0, b0⟩ := num_eats' a1 c7
    unfold itemB
    simp only at b0
    rw [hr, List.append_nil] at b3
    rw [b3, h0] at b2
    rw [b2] at b1
    rw [b1] at b0
    refine Eq.trans ?_ b0.symm
    simp [show smallB (0 : Int) = 0 by decide]
  · simp only [h0, if_false] at h hok hr hpos c4 c5 c6 c7 c8 ⊢
    have h1 : (smallR (numR (numR ⟨l, false⟩).2).2).1 = 1 := by simpa using hok
    obtain ⟨a2, b2, _⟩ := small_eats' h
    obtain ⟨a1, b1⟩ := num_eats' a2 c8
    obtain ⟨a0, b0⟩ := num_eats' a1 c7
    unfold itemB
    simp only at b0
    rw [hr, h1] at b2
    rw [b2] at b1
    rw [b1] at b0
    refine Eq.trans ?_ b0.symm
    simp [h1, show smallB (1 : Int) = 1 by decide]
theorem dec_fixed {l : List UInt8} (h : (decItem l).2 = 0) : (decItem l).1.check = 0 ∧ itemB (decItem l).1 = l := by
  unfold decItem at h ⊢
  split at h
  · cases h
  · rename_i h1
    rw [if_neg h1]
    simp only at h ⊢
    split at h
    · cases h
    · rename_i h2
      rw [if_neg h2]
      split at h
      · cases h
      · rename_i h3
        rw [if_neg h3]
        split at h
        · rename_i h4
          rw [if_pos h4]
          simp only [not_or, Nat.not_lt, Nat.le_zero] at h3
          exact ⟨h4, item_eats (by simpa using h2) (by simpa using h3.1) (List.eq_nil_of_length_eq_zero h3.2) h4⟩
        · rename_i h4
          exact absurd h h4
theorem dec_err {l : List UInt8} (h : (decItem l).2 ≠ 0) : (decItem l).1 = zeroItem := by
  unfold decItem at h ⊢
  split
  · rfl
  · simp only
    split
    · rfl
    · split
      · rfl
      · split
        · rename_i a b c d
          rw [if_neg a] at h
          simp only at h
          rw [if_neg b, if_neg c, if_pos d] at h
          exact absurd rfl h
        · rfl
theorem itemFixed_c (l : List UInt8) (hl : l.length ≤ 140737488355328) : PCall Try.prog G 15 [.one (.v (.sl (bR l)))] (bV true) := by
  have d1 := decodeItem_c (G := G) l
  have d0 := decodeItem_c (G := G) []
  rw [show decItem [] = (zeroItem, 9) from rfl] at d0
  have u1 := bR_ul l
  have u2 := bR_len l
  have u3 := bR_bytes l
  by_cases h : (decItem l).2 = 0
  · obtain ⟨h1, h2⟩ := dec_fixed h
    rw [h] at d1
    generalize (decItem l).1 = x at *
    have e1 := encodeItem_c (G := G) x h1
    rw [h2] at e1
    simp only [Item.row, List.map_cons, List.map_nil] at e1 d1
    refine pcall mixed Try.func15 ok_rostrumkeep_ItemFixed rs_rostrumkeep_ItemFixed (by simp [Try.f15]) ?_
    unfold ac_rostrumkeep_ItemFixed
    repeat' (first
    | (with_reducible refine Cnd.intro (fun h => ?_) (fun h => ?_))
    | (with_reducible refine And.intro ?_ ?_)
    | (with_reducible refine Wk.refl ?_)
    | (with_reducible exact Weak.refl _ _)
    | (with_reducible refine weak_auto ?_)
    | (with_reducible apply awp_join)
    | (with_reducible refine CallZ.l (PCall.kf (d1) ?_ ?_))
    | (with_reducible refine PCall.kf (d1) ?_ ?_)
    | (with_reducible refine PCall.df (d1) ?_ ?_)
    | (with_reducible refine CallZ.l (PCall.kf (e1) ?_ ?_))
    | (with_reducible refine PCall.kf (e1) ?_ ?_)
    | (with_reducible refine PCall.df (e1) ?_ ?_)
    | (with_reducible refine CallZ.l (PCall.kn (d1) (by with_unfolding_all rfl) (by with_unfolding_all rfl) ?_))
    | (with_reducible refine PCall.kn (d1) (by with_unfolding_all rfl) (by with_unfolding_all rfl) ?_)
    | (with_reducible refine PCall.dn (d1) (by with_unfolding_all rfl) (by with_unfolding_all rfl) ?_)
    | (with_reducible refine CallZ.l (PCall.kn (e1) (by with_unfolding_all rfl) (by with_unfolding_all rfl) ?_))
    | (with_reducible refine PCall.kn (e1) (by with_unfolding_all rfl) (by with_unfolding_all rfl) ?_)
    | (with_reducible refine PCall.dn (e1) (by with_unfolding_all rfl) (by with_unfolding_all rfl) ?_)
    | ((with_reducible refine PCall.dz (d1) (by with_unfolding_all rfl) (by with_unfolding_all rfl) ?_); rotate_right; rintro zh1 zq1; (try simp -dsimp [go_sem] at zq1); obtain ⟨rfl⟩ := zq1)
    | ((with_reducible refine PCall.dz (e1) (by with_unfolding_all rfl) (by with_unfolding_all rfl) ?_); rotate_right; rintro zh1 zq1; (try simp -dsimp [go_sem] at zq1); obtain ⟨rfl⟩ := zq1)
    | (with_reducible refine CallZ.z ?_)
    | (simp -dsimp [go_sem, u1, u2, u3]))
    all_goals first | omega | skip
  · have h1 := dec_err h
    rw [h1] at d1
    have hb : ((decItem l).2 != 0) = true := by simpa using h
    generalize (decItem l).2 = e at *
    simp only [Item.row, List.map_cons, List.map_nil, zeroItem, bR] at d1 d0
    have u4 : bR l = List.map (fun b => [V.lit (.int .u8 (b.toNat : Int))]) l := rfl
    rw [u4] at u1 u2 ⊢
    refine pcall mixed Try.func15 ok_rostrumkeep_ItemFixed rs_rostrumkeep_ItemFixed (by simp [Try.f15]) ?_
    unfold ac_rostrumkeep_ItemFixed
    repeat' (first
    | (with_reducible refine Cnd.intro (fun h => ?_) (fun h => ?_))
    | (with_reducible refine And.intro ?_ ?_)
    | (with_reducible refine Wk.refl ?_)
    | (with_reducible exact Weak.refl _ _)
    | (with_reducible refine weak_auto ?_)
    | (with_reducible apply awp_join)
    | (with_reducible refine CallZ.l (PCall.kf (d1) ?_ ?_))
    | (with_reducible refine PCall.kf (d1) ?_ ?_)
    | (with_reducible refine PCall.df (d1) ?_ ?_)
    | (with_reducible refine CallZ.l (PCall.kf (d0) ?_ ?_))
    | (with_reducible refine PCall.kf (d0) ?_ ?_)
    | (with_reducible refine PCall.df (d0) ?_ ?_)
    | (with_reducible refine CallZ.l (PCall.kn (d1) (by with_unfolding_all rfl) (by with_unfolding_all rfl) ?_))
    | (with_reducible refine PCall.kn (d1) (by with_unfolding_all rfl) (by with_unfolding_all rfl) ?_)
    | (with_reducible refine PCall.dn (d1) (by with_unfolding_all rfl) (by with_unfolding_all rfl) ?_)
    | (with_reducible refine CallZ.l (PCall.kn (d0) (by with_unfolding_all rfl) (by with_unfolding_all rfl) ?_))
    | (with_reducible refine PCall.kn (d0) (by with_unfolding_all rfl) (by with_unfolding_all rfl) ?_)
    | (with_reducible refine PCall.dn (d0) (by with_unfolding_all rfl) (by with_unfolding_all rfl) ?_)
    | ((with_reducible refine PCall.dz (d1) (by with_unfolding_all rfl) (by with_unfolding_all rfl) ?_); rotate_right; rintro zh1 zq1; (try simp -dsimp [go_sem] at zq1); obtain ⟨rfl⟩ := zq1)
    | ((with_reducible refine PCall.dz (d0) (by with_unfolding_all rfl) (by with_unfolding_all rfl) ?_); rotate_right; rintro zh1 zq1; (try simp -dsimp [go_sem] at zq1); obtain ⟨rfl⟩ := zq1)
    | (with_reducible refine CallZ.z ?_)
    | (simp -dsimp [go_sem, u1, u2, hb]))
    all_goals first | omega | skip
theorem bytes_of : ∀ (rows : List (List V)), (∀ r ∈ rows, WT Try.prog 1 5 r) → ∃ l : List UInt8, rows = bR l
  | [], _ => ⟨[], rfl⟩
  | r :: rows, h => by
    obtain ⟨l, hl⟩ := bytes_of rows fun r hr => h r (List.mem_cons_of_mem _ hr)
    have hr := h r (List.mem_cons_self ..)
    simp [WT, ti5] at hr
    obtain ⟨x, rfl, hx⟩ := hr
    have hb := wf_u8 hx
    refine ⟨UInt8.ofNat x.toNat :: l, ?_⟩
    rw [hl]
    simp only [bR, List.map_cons, UInt8.toNat_ofNat']
    rw [show ((x.toNat % 2 ^ 8 : Nat) : Int) = x by omega]
end Go.Proofs.Ytniihihcklpdgaa
