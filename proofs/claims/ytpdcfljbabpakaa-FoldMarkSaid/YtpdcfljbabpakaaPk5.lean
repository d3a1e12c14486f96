/- Texts joined: WH Zb Sz F H K Yi Zi Xi L M N P Q S TM TF TG TH CF PT. -/
import Derived.Test.YtpdcfljbabpakaaPk4
import Derived.Test.YtpdcfljbabpakaaPk3
import Derived.Test.YtpdcfljbabpakaaAeRead
import Derived.SizedLaws
import Derived.Test.YtpdcfljbabpakaaPk2
import Derived.Test.YtpdcfljbabpakaaPk1
import Derived.Test.YtpdcfljbabpakaaAeLoop
/- The function rostrumkeep.MachineFixed answers true. -/
set_option linter.unusedVariables false
set_option linter.unusedSimpArgs false
set_option maxRecDepth 100000
set_option maxHeartbeats 8000000
namespace Go.Proofs.Ytpdcfljbabpakaa
open Go Go.RowKit Go.Proofs.AE
variable {G : Nat → AV}
theorem decM_nil : decM [] = (zeroM, 9) := by
  have h : (machR ⟨[], false⟩).2.short = true := by
    have : (numR ⟨[], false⟩).2.short = true := by decide
    rw [machR_eq]
    generalize numR ⟨[], false⟩ = q at *
    obtain ⟨n, ⟨l, s⟩⟩ := q
    simp only at this ⊢
    subst this
    have h1 : (eachR entR ⟨l, true⟩).2.short = true := (Codec.ent.many).reads.stuck l
    generalize eachR entR ⟨l, true⟩ = q at *
    obtain ⟨n, ⟨l, s⟩⟩ := q
    simp only at h1 ⊢
    subst h1
    have h2 : (numR ⟨l, true⟩).2.short = true := reads_num.stuck l
    generalize numR ⟨l, true⟩ = q at *
    obtain ⟨n, ⟨l, s⟩⟩ := q
    simp only at h2 ⊢
    subst h2
    exact (Codec.cli.many).reads.stuck l
  unfold decM
  rw [if_neg (by simp)]
  have e : endR (machR ⟨[], false⟩).2 = 9 := by unfold endR; rw [if_pos h]
  rw [e, if_pos (by omega)]
abbrev ac_rostrumkeep_MachineFixed := CC.of Try.f3 []
theorem machineFixed_c (l : List UInt8) (hl : l.length ≤ 140737488355328) : PCall Try.prog G 3 [.one (.v (.sl (bR l)))] (bV true) := by
  have d1 := decode_c (G := G) l
  have d0 := decode_c (G := G) []
  rw [decM_nil] at d0
  have u1 := bR_ul l
  have u2 := bR_len l
  have u3 := bR_bytes l
  by_cases h : (decM l).2 = 0
  · obtain ⟨h1, h2, _⟩ := decM_fixed h
    rw [h] at d1
    generalize (decM l).1 = x at *
    have e1 := encode_c (G := G) x h1
    rw [h2] at e1
    obtain ⟨⟨now, es⟩, nx, cs⟩ := x
    simp only [Mach.c] at e1 d1
    refine pcallc mixed Try.func3 ac_rostrumkeep_MachineFixed ?_
    repeat' (first | (with_reducible first | refine Cn (fun h => ?_) fun h => ?_ | refine And.intro ?_ ?_ | refine wR ?_ | exact wr _ _ | refine wa ?_ | apply awp_join | refine q d1 ?_ | refine qd d1 ?_ | refine qz d1 ?_ | refine q e1 ?_ | refine qd e1 ?_ | refine qz e1 ?_) | (with_reducible refine CallZ.z ?_) | simp -dsimp [go_sem, u1, u2, u3])
    all_goals first | omega | trace_state
  · have h1 := decM_err h
    rw [h1] at d1
    have hb : ((decM l).2 != 0) = true := by simpa using h
    generalize (decM l).2 = e at *
    simp only [zeroM, zeroS, Mach.c, List.map_nil, bR] at d1 d0
    have u4 : bR l = List.map (fun b => [V.lit (.int .u8 (b.toNat : Int))]) l := rfl
    rw [u4] at u1 u2 ⊢
    refine pcallc mixed Try.func3 ac_rostrumkeep_MachineFixed ?_
    repeat' (first | (with_reducible first | refine Cn (fun h => ?_) fun h => ?_ | refine And.intro ?_ ?_ | refine wR ?_ | exact wr _ _ | refine wa ?_ | apply awp_join | refine q d1 ?_ | refine qd d1 ?_ | refine qz d1 ?_ | refine q d0 ?_ | refine qd d0 ?_ | refine qz d0 ?_) | (with_reducible refine CallZ.z ?_) | simp -dsimp [go_sem, u1, u2, hb])
    all_goals first | omega | trace_state
end Go.Proofs.Ytpdcfljbabpakaa

/- Bytes from outside. -/
set_option linter.unusedVariables false
set_option linter.unusedSimpArgs false
set_option maxRecDepth 100000
set_option maxHeartbeats 8000000
namespace Go.Proofs.Ytpdcfljbabpakaa
open Go Go.RowKit Go.Proofs.AE
theorem wf_u8 {n : Int} (h : (Lit.int .u8 n).wf = true) : 0 ≤ n ∧ n < 256 := by
  rw [Lit.wf] at h
  simp only [Bool.and_eq_true, decide_eq_true_eq] at h
  simp [IntKind.min, IntKind.max, IntKind.bits, IntKind.signed] at h
  omega
theorem bytes_of : ∀ (rows : List (List V)), (∀ r ∈ rows, WT Try.prog 1 5 r) → ∃ l : List UInt8, rows = bR l
  | [], _ => ⟨[], rfl⟩
  | r :: rows, h => by
    obtain ⟨l, hl⟩ := bytes_of rows fun r hr => h r (List.mem_cons_of_mem _ hr)
    have hr := h r (List.mem_cons_self ..)
    simp [WT, ti5] at hr
    obtain ⟨x, rfl, hx⟩ := hr
    have hb := wf_u8 hx
    refine ⟨UInt8.ofNat x.toNat :: l, ?_⟩
    rw [hl]
    simp only [bR, List.map_cons, UInt8.toNat_ofNat']
    rw [show ((x.toNat % 2 ^ 8 : Nat) : Int) = x by omega]
end Go.Proofs.Ytpdcfljbabpakaa

/- How long a slice from outside may be. -/
set_option linter.unusedVariables false
set_option linter.unusedSimpArgs false
set_option maxRecDepth 100000
set_option maxHeartbeats 8000000
namespace Go.Proofs.Ytpdcfljbabpakaa
open Go Go.RowKit Go.Proofs.AE
theorem read_len {H : Type} {enc : TypeId × Value → H} {P : Program} {w : World} {ok : Nat → Prop} {base : Nat} {spare : Nat → Bool} {held : Bool} {t e : TypeId} {v : Value} {d : DataW H} {ps : List MemPlace} {μ : List MB} {rows : List (List V)} (ht : P.underlying t = some (.slice e))
    (h : DataW.Trod enc P w base spare held t v d ps) (hv : AVRel w ok μ (.one (.v (.sl rows))) v) : rows = [] ∨ ∃ es sp, d = .slice es sp ∧ es.length = rows.length := by
  obtain ⟨fuel, hf⟩ := h
  cases hv with | one hv =>
  cases hv with | v hv =>
  rcases Go.Deep.open_slice ht hf with ⟨h1, h2⟩ | ⟨a, len, cap, m, n, D, Pl, h1, _, _, _, _, h2, _⟩
  · left
    cases hv with
    | nil => rfl
    | sl => simp [Value.cells] at h1
  · cases hv with
    | nil => simp [Value.cells] at h1
    | sl rows b off cap' cv hok hcap hmax hc hv =>
      right
      simp only [Value.cells] at h1
      have h3 : rows.length = len := by simp at h1; exact h1.2.1
      exact ⟨_, _, (Prod.mk.inj h2).1, by simp [h3]⟩
/-- A slice from outside lies in memory. -/
theorem sized_rows {H : Type} {P : Program} {ts : List TypeId} {ds : List (DataW H)} (hz : (DataW.weightsEach P ts ds).all (· ≤ reachBytes) = true) {j : Nat} {t e : TypeId} {d : DataW H} {rows : List (List V)} (hj : ts[j]? = some t) (hd : ds[j]? = some d) (hu : P.underlying t = some (.slice e))
    (h : rows = [] ∨ ∃ es sp, d = .slice es sp ∧ es.length = rows.length) : rows.length * P.bytesOf e ≤ 140737488351232 := by
  rcases h with rfl | ⟨es, sp, rfl, hl⟩
  · simp
  · have := sized_slice hz hj hd hu
    have h2 : rows.length * P.bytesOf e ≤ (es.length + sp.length) * P.bytesOf e := Nat.mul_le_mul_right _ (by omega)
    have h3 : reachBytes = 140737488351232 := by decide
    omega
end Go.Proofs.Ytpdcfljbabpakaa

/- What the functions that make and check items answer. -/
set_option linter.unusedVariables false
set_option linter.unusedSimpArgs false
set_option maxRecDepth 100000
set_option maxHeartbeats 8000000
namespace Go.Proofs.Ytpdcfljbabpakaa
open Go Go.RowKit Go.Proofs.AE
variable {G : Nat → AV}
abbrev bC (b : Bool) : C := .v (.lit (.bool b))
/-- The cells of an item. -/
def itemC (term time : Int) (nop : Bool) (client seq k : Int) (key field text : ByteArray) (n : Int) : List C := [iC term, iC time, bC nop, iC client, iC seq, iC k, sC key, sC field, sC text, iC n]
def noCall (client seq k : Int) (key field text : ByteArray) (n : Int) : Bool := client == 0 && (seq == 0 && (k == 0 && (decide (key = ⟨#[]⟩) && (decide (field = ⟨#[]⟩) && (decide (text = ⟨#[]⟩) && n == 0)))))
def checkItem (term time : Int) (nop : Bool) (client seq k : Int) (key field text : ByteArray) (n : Int) : Int :=
  if decide (term < 1) then 2 else if decide (1048576 < term) then 2 else if decide (time < 0) then 2 else if decide (1073741824 < time) then 2
  else if nop then (if noCall client seq k key field text n then 0 else 8) else checkCall client seq k key field text n
theorem checkItem_c (term time : Int) (nop : Bool) (client seq k : Int) (key field text : ByteArray) (n : Int) :
    PCall Try.prog G 45 [.agg [iC term, iC time, bC nop, iC client, iC seq, iC k, sC key, sC field, sC text, iC n]] (iV (checkItem term time nop client seq k key field text n)) := by
  refine pcallc mixed Try.func45 ac_wire_CheckItem ?_
  repeat' (first | (with_reducible first | refine Cn (fun h => ?_) fun h => ?_ | refine And.intro ?_ ?_ | refine wR ?_ | exact wr _ _ | refine wa ?_ | apply awp_join | refine q (checkCall_c _ _ _ _ _ _ _) ?_ | refine qd (checkCall_c _ _ _ _ _ _ _) ?_ | refine qz (checkCall_c _ _ _ _ _ _ _) ?_) | (with_reducible refine CallZ.z ?_) | simp -dsimp [go_sem])
  all_goals simp_all [checkItem, noCall]
  all_goals ((repeat' split) <;> first | rfl | omega | (exfalso; simp_all; done))
/-- The item of raw numbers. -/
def itemCall (client off kind key field n : Int) (text : ByteArray) : List C :=
  if pk client 5 = 0 ∨ pk client 5 = 1 then [iC 0, iC 0, iC 0, sC ⟨#[]⟩, sC ⟨#[]⟩, sC ⟨#[]⟩, iC 0] else iC (pk client 50 + 1) :: iC (1 + pk off 100) :: cmdOf (1 + pk kind 22) key field n text
theorem item_c (client off wait kind key field n : Int) (text : ByteArray) (term time : Int) (hc : i64 client) (ho : i64 off) (h1 : i64 kind) (h2 : i64 key) (h3 : i64 field) (h4 : i64 n) (ht : i64 term) (hi : i64 time) :
    PCall Try.prog G 30 [.agg [iC client, iC off, iC wait, iC kind, iC key, iC field, iC n, sC text], iV term, iV time]
      (.agg (iC (1 + pk term 1000) :: iC (pk time 100000) :: bC (decide (pk client 5 = 0)) :: itemCall client off kind key field n text)) := by
  have r1 := pk_range (n := term) (m := 1000) (by omega)
  have r2 := pk_range (n := client) (m := 50) (by omega)
  have r3 := pk_range (n := off) (m := 100) (by omega)
  have e1 : IntKind.i64.wrap (1 + pk term 1000) = 1 + pk term 1000 := IntWalk.i64_in _ (by omega)
  have e2 : IntKind.i64.wrap (pk client 50 + 1) = pk client 50 + 1 := IntWalk.i64_in _ (by omega)
  have e3 : IntKind.i64.wrap (1 + pk off 100) = 1 + pk off 100 := IntWalk.i64_in _ (by omega)
  refine pcallc mixed Try.func30 ac_rostrumkeep_Item ?_
  repeat' (first | (with_reducible first | refine Cn (fun h => ?_) fun h => ?_ | refine And.intro ?_ ?_ | refine wR ?_ | exact wr _ _ | refine wa ?_ | apply awp_join | refine q1 (by exact picked_c _ _ (by assumption) (by simp)) ?_ | refine q1d (by exact picked_c _ _ (by assumption) (by simp)) ?_ | refine q1 (by exact picked_c _ _ (by assumption) (by simp)) ?_ | refine q1d (by exact picked_c _ _ (by assumption) (by simp)) ?_ | refine q1 (by exact command_c _ _ _ _ _ (by assumption) (by assumption) (by assumption) (by assumption)) ?_ | refine q1d (by exact command_c _ _ _ _ _ (by assumption) (by assumption) (by assumption) (by assumption)) ?_) | (with_reducible refine CallZ.z ?_) | simp -dsimp [go_sem, cmdOf, e1, e2, e3])
  all_goals simp_all [itemCall, cmdOf, coeCs, coeC]
end Go.Proofs.Ytpdcfljbabpakaa

/- The function rostrumkeep.ItemBad answers true. -/
set_option linter.unusedVariables false
set_option linter.unusedSimpArgs false
set_option maxRecDepth 100000
set_option maxHeartbeats 8000000
namespace Go.Proofs.Ytpdcfljbabpakaa
open Go Go.RowKit Go.Proofs.AE
variable {G : Nat → AV}
theorem callGood {client off kind key field n : Int} {text : ByteArray} (h4 : i64 n) : ∀ c s k a b d m, itemCall client off kind key field n text = [iC c, iC s, iC k, sC a, sC b, sC d, iC m] → checkCall c s k a b d m = 0 := by
  intro c s k a b d m h
  have r2 := pk_range (n := client) (m := 50) (by omega)
  have r3 := pk_range (n := off) (m := 100) (by omega)
  unfold itemCall at h
  split at h
  · simp only [List.cons.injEq, C.v.injEq, V.lit.injEq, Value.int.injEq, Value.string.injEq, and_true, true_and] at h
    obtain ⟨rfl, rfl, rfl, rfl, rfl, rfl, rfl⟩ := h
    decide
  · simp only [List.cons.injEq, C.v.injEq, V.lit.injEq, Value.int.injEq, true_and] at h
    obtain ⟨rfl, rfl, h⟩ := h
    have hc := cmd_ok kind key field n text h4 k a b d m h
    have h1 : okNumber (pk client 50 + 1) = true := by simp only [okNumber, Bool.and_eq_true, decide_eq_true_eq]; omega
    have h2 : okNumber (1 + pk off 100) = true := by simp only [okNumber, Bool.and_eq_true, decide_eq_true_eq]; omega
    have h3 : ¬ pk client 50 + 1 = 0 := by omega
    simp [checkCall, h1, h2, h3, hc]
end Go.Proofs.Ytpdcfljbabpakaa

/- The items that a list of deeds makes. -/
set_option linter.unusedVariables false
set_option linter.unusedSimpArgs false
set_option maxRecDepth 100000
set_option maxHeartbeats 8000000
namespace Go.Proofs.Ytpdcfljbabpakaa
open Go Go.RowKit Go.Proofs.AE
variable {G : Nat → AV}
structure Item where
  term : Int
  time : Int
  nop : Bool
  client : Int
  seq : Int
  k : Int
  key : ByteArray
  field : ByteArray
  text : ByteArray
  n : Int
def Item.row (x : Item) : List V := [iL x.term, iL x.time, .lit (.bool x.nop), iL x.client, iL x.seq, iL x.k, sL x.key, sL x.field, sL x.text, iL x.n]
def Item.check (x : Item) : Int := checkItem x.term x.time x.nop x.client x.seq x.k x.key x.field x.text x.n
/-- The item of a deed. -/
noncomputable def itemOf (d : Deed) (term time : Int) : Item :=
  if pk d.client 5 = 0 ∨ pk d.client 5 = 1 then ⟨term, time, decide (pk d.client 5 = 0), 0, 0, 0, ⟨#[]⟩, ⟨#[]⟩, ⟨#[]⟩, 0⟩
  else match cmdOf (1 + pk d.kind 22) d.key d.field d.n d.text with
    | [.v (.lit (.int _ k)), .v (.lit (.string a)), .v (.lit (.string b)), .v (.lit (.string c)), .v (.lit (.int _ m))] => ⟨term, time, false, pk d.client 50 + 1, 1 + pk d.off 100, k, a, b, c, m⟩
    | _ => ⟨0, 0, false, 0, 0, 0, ⟨#[]⟩, ⟨#[]⟩, ⟨#[]⟩, 0⟩
theorem itemOf_call (d : Deed) (term time : Int) : itemCall d.client d.off d.kind d.key d.field d.n d.text = [iC (itemOf d term time).client, iC (itemOf d term time).seq, iC (itemOf d term time).k, sC (itemOf d term time).key, sC (itemOf d term time).field, sC (itemOf d term time).text, iC (itemOf d term time).n] := by
  unfold itemCall itemOf
  split
  · rfl
  · simp [cmdOf]
theorem itemOf_head (d : Deed) (term time : Int) : (itemOf d term time).term = term ∧ (itemOf d term time).time = time ∧ (itemOf d term time).nop = decide (pk d.client 5 = 0) := by
  unfold itemOf
  split
  · exact ⟨rfl, rfl, rfl⟩
  · rename_i h
    have : ¬ pk d.client 5 = 0 := fun e => h (.inl e)
    simp [cmdOf, this]
noncomputable def itemsGo : List Deed → Int → Int → List Item
  | [], _, _ => []
  | d :: l, term, time => itemOf d (term + (pk d.off 4).tdiv 3) (time + pk d.wait 3) :: itemsGo l (term + (pk d.off 4).tdiv 3) (time + pk d.wait 3)
noncomputable def itemsOf (l : List Deed) (term : Int) : List Item := itemsGo (l.take 30) term 0
theorem itemsO_c (l : List Deed) (term : Int) (hl : (l.length : Int) ≤ 9223372036854775807) (hd : ∀ d ∈ l, d.Ok) (ht : 0 ≤ term ∧ term ≤ 1000) :
    DetCall Try.prog G 9 0 [] [.one (.v (.sl (l.map Deed.row))), iV term] (.one (.ar 0)) [some (.arr 44 10 ((itemsOf l term).map Item.row))] := by
  refine gcallc mixed Try.func9 ac_rostrumkeep_items ?_
  simp -dsimp [go_sem]
  refine awp_loop (fun x : Nat × Int × Int × List Item => ⟨[(0, .one (.v (.sl (l.map Deed.row)))), (1, iV x.2.1), (5, .one (.ar 0)), (6, iV x.2.2.1), (7, iV x.1)], G, [some (.arr 44 10 (x.2.2.2.map Item.row))]⟩)
    (fun x => x.1 ≤ 30 ∧ x.1 ≤ l.length ∧ x.2.2.2.length = x.1 ∧ 0 ≤ x.2.1 ∧ x.2.1 ≤ term + x.1 ∧ 0 ≤ x.2.2.1 ∧ x.2.2.1 ≤ 2 * x.1 ∧ x.2.2.2 ++ itemsGo ((l.take 30).drop x.1) x.2.1 x.2.2.1 = itemsOf l term)
    (fun x => 30 - x.1) (0, term, 0, []) (Weak.trans (weak_nil 5 44 10 ?_ (by omega)) (weak_auto ?_)) ?_ ?_
  · simp -dsimp [go_sem]
  · simp -dsimp [go_sem]
  · exact ⟨by omega, by simp, rfl, ht.1, by simp, by simp, by simp, by simp [itemsOf]⟩
  · rintro ⟨i, te, ti, acc⟩ ⟨a1, a2, a3, a4, a5, a6, a7, a8⟩
    simp only at a1 a2 a3 a4 a5 a6 a7 a8
    have hend : (l.take 30).length ≤ i → itemsOf l term = acc := by
      intro h
      rw [List.drop_eq_nil_of_le h] at a8
      simp only [itemsGo, List.append_nil] at a8
      exact a8.symm
    simp -dsimp [go_sem]
    refine Cnd.intro (fun h => ?_) (fun h => ?_)
    · have hlt : i < l.length := by simpa using h
      simp -dsimp [go_sem]
      refine Cnd.intro (fun h' => ?_) (fun h' => ?_)
      · have hlt' : i < 30 := by simp at h'; omega
        obtain ⟨d, hdi⟩ : ∃ d, l[i]? = some d := ⟨_, List.getElem?_eq_getElem hlt⟩
        have hgi : (l.map Deed.row)[i]? = some d.row := by simp [hdi]
        obtain ⟨o1, o2, o3, o4, o5, o6, o7⟩ := hd d (List.mem_of_getElem? hdi)
        have z0 : i64 0 := by unfold i64; omega
        have p1 : pk 0 1000 = 0 := by decide
        have p2 : pk 0 100000 = 0 := by decide
        have q1 := pk_range (n := d.off) (m := 4) (by omega)
        have q2 := pk_range (n := d.wait) (m := 3) (by omega)
        have q3 : 0 ≤ (pk d.off 4).tdiv 3 ∧ (pk d.off 4).tdiv 3 ≤ 1 := by
          rw [Int.tdiv_eq_ediv_of_nonneg q1.1]; omega
        have e1 : IntKind.i64.wrap ((pk d.off 4).tdiv 3) = (pk d.off 4).tdiv 3 := IntWalk.i64_in _ (by omega)
        have e2 : IntKind.i64.wrap (te + (pk d.off 4).tdiv 3) = te + (pk d.off 4).tdiv 3 := IntWalk.i64_in _ (by omega)
        have e3 : IntKind.i64.wrap (ti + pk d.wait 3) = ti + pk d.wait 3 := IntWalk.i64_in _ (by omega)
        have e4 : IntKind.i64.wrap ((i : Int) + 1) = (i : Int) + 1 := IntWalk.i64_in _ (by omega)
        have hI := itemOf_call d (te + (pk d.off 4).tdiv 3) (ti + pk d.wait 3)
        repeat' (first | (with_reducible first | refine Cn (fun h => ?_) fun h => ?_ | refine And.intro ?_ ?_ | refine wR ?_ | exact wr _ _ | refine wa ?_ | apply awp_join | refine q1 (by exact picked_c _ _ (by assumption) (by simp)) ?_ | refine q1d (by exact picked_c _ _ (by assumption) (by simp)) ?_ | refine q1 (by exact item_c _ _ _ _ _ _ _ _ _ _ (by assumption) (by assumption) (by assumption) (by assumption) (by assumption) (by assumption) (by assumption) (by assumption)) ?_ | refine q1d (by exact item_c _ _ _ _ _ _ _ _ _ _ (by assumption) (by assumption) (by assumption) (by assumption) (by assumption) (by assumption) (by assumption) (by assumption)) ?_) | (with_reducible refine CallZ.z ?_) | simp -dsimp [go_sem, Deed.row, hgi, hI, p1, p2, e1, e2, e3, e4])
        all_goals (try omega)
        all_goals (try (simp [UL]; done))
        have hdrop : (l.take 30).drop i = d :: (l.take 30).drop (i + 1) := by
          have hi : i < (l.take 30).length := by simp; omega
          rw [List.drop_eq_getElem_cons hi]
          congr 1
          rw [List.getElem_take]
          rw [List.getElem?_eq_getElem hlt] at hdi
          exact Option.some.inj hdi
        obtain ⟨t1, t2, t3⟩ := itemOf_head d (te + (pk d.off 4).tdiv 3) (ti + pk d.wait 3)
        refine Again.auto (i + 1, te + (pk d.off 4).tdiv 3, ti + pk d.wait 3, acc ++ [itemOf d (te + (pk d.off 4).tdiv 3) (ti + pk d.wait 3)]) ?_ ⟨by simp; omega, by simp; omega, by simp [a3], by simp; omega, by simp; omega, by simp; omega, by simp; omega, ?_⟩ (by simp; omega)
        · simp -dsimp [go_sem, Item.row, t1, t2, t3, e1, e2, e3, e4]
        · rw [hdrop] at a8
          simp only [itemsGo] at a8
          simpa using a8
      · have : (l.take 30).length ≤ i := by simp at h' ⊢; omega
        rw [hend this]
        simp -dsimp [go_sem]
    · have : (l.take 30).length ≤ i := by simp at h ⊢; omega
      rw [hend this]
      simp -dsimp [go_sem]
theorem items_c (l : List Deed) (term : Int) (hl : (l.length : Int) ≤ 9223372036854775807) (hd : ∀ d ∈ l, d.Ok) (ht : 0 ≤ term ∧ term ≤ 1000) :
    PCall Try.prog G 9 [.one (.v (.sl (l.map Deed.row))), iV term] (.one (.v (.sl ((itemsOf l term).map Item.row)))) :=
  (itemsO_c l term hl hd ht).plain (by simp -dsimp [go_sem])
end Go.Proofs.Ytpdcfljbabpakaa

/- Items as bytes: writing, and the model of reading. -/
set_option linter.unusedVariables false
set_option linter.unusedSimpArgs false
set_option maxRecDepth 100000
set_option maxHeartbeats 8000000
namespace Go.Proofs.Ytpdcfljbabpakaa
open Go Go.RowKit Go.Proofs.AE
variable {G : Nat → AV}
def cmdB (k : Int) (key field text : ByteArray) (n : Int) : List UInt8 := [smallB k] ++ textB key ++ textB field ++ textB text ++ numB n
def callB (client seq k : Int) (key field text : ByteArray) (n : Int) : List UInt8 := numB client ++ (if 0 < client then numB seq ++ cmdB k key field text n else [])
def itemB (x : Item) : List UInt8 := numB x.term ++ numB x.time ++ (if x.nop then [1] else [0] ++ callB x.client x.seq x.k x.key x.field x.text x.n)
/-- What a command that may be has. -/
theorem cmd_bounds {k : Int} {a b c : ByteArray} {n : Int} (hc : checkCommand k a b c n = 0) : 1 ≤ k ∧ k ≤ 22 ∧ a.size ≤ 12 ∧ b.size ≤ 12 ∧ c.size ≤ 20 ∧ -1099511627776 ≤ n ∧ n ≤ 1099511627776 := by
  have hz : (⟨#[]⟩ : ByteArray).size = 0 := rfl
  unfold checkCommand at hc
  repeat' split at hc
  all_goals first | (cases hc; done) | skip
  rename_i h1 h2 h3 h4 h5
  simp only [Bool.not_eq_false] at h3 h5
  simp only [formOk, okCount, okText, okField, Bool.and_eq_true, Bool.or_eq_true, Bool.not_eq_true', decide_eq_true_eq, bne_iff_ne, ne_eq, beq_iff_eq, decide_eq_false_iff_not, Bool.and_eq_false_iff, not_or, not_and, Decidable.not_not] at h3 h4 h5
  obtain ⟨⟨⟨q1, q2⟩, q3⟩, q4⟩ := h3
  obtain ⟨⟨p1, p2⟩, p3⟩ := h4
  refine ⟨by omega, by omega, ?_, ?_, by omega, h5.1, h5.2⟩
  · rcases q1 with q | q
    · have := p1 q; omega
    · rw [q, hz]; omega
  · rcases q2 with q | q
    · have := p2 q; omega
    · rw [q, hz]; omega
theorem noCall_iff {client seq k : Int} {a b c : ByteArray} {n : Int} : noCall client seq k a b c n = true ↔ client = 0 ∧ seq = 0 ∧ k = 0 ∧ a = ⟨#[]⟩ ∧ b = ⟨#[]⟩ ∧ c = ⟨#[]⟩ ∧ n = 0 := by
  simp [noCall]
/-- What a call that may be has. -/
theorem call_bounds {client seq k : Int} {a b c : ByteArray} {n : Int} (h : checkCall client seq k a b c n = 0) :
    (client = 0 ∧ seq = 0 ∧ k = 0 ∧ a = ⟨#[]⟩ ∧ b = ⟨#[]⟩ ∧ c = ⟨#[]⟩ ∧ n = 0) ∨ (1 ≤ client ∧ client ≤ 1048576 ∧ 1 ≤ seq ∧ seq ≤ 1048576 ∧ checkCommand k a b c n = 0) := by
  unfold checkCall at h
  split at h
  · rename_i h0
    left
    split at h
    · rename_i h1
      simp only [decide_eq_true_eq] at h0
      simp only [Bool.and_eq_true, beq_iff_eq, decide_eq_true_eq] at h1
      exact ⟨h0, h1⟩
    · cases h
  · split at h
    · rename_i h1
      split at h
      · rename_i h2
        right
        simp only [okNumber, Bool.and_eq_true, decide_eq_true_eq] at h1 h2
        exact ⟨h1.1, h1.2, h2.1, h2.2, h⟩
      · cases h
    · cases h
/-- What an item that may be has. -/
theorem item_ok {x : Item} (h : x.check = 0) : 1 ≤ x.term ∧ x.term ≤ 1048576 ∧ 0 ≤ x.time ∧ x.time ≤ 1073741824 ∧ (x.nop = true → x.client = 0) ∧
    ((x.client = 0 ∧ x.seq = 0 ∧ x.k = 0 ∧ x.key = ⟨#[]⟩ ∧ x.field = ⟨#[]⟩ ∧ x.text = ⟨#[]⟩ ∧ x.n = 0) ∨ (1 ≤ x.client ∧ x.client ≤ 1048576 ∧ 1 ≤ x.seq ∧ x.seq ≤ 1048576 ∧ checkCommand x.k x.key x.field x.text x.n = 0)) := by
  unfold Item.check checkItem at h
  simp only [decide_eq_true_eq] at h
  by_cases h1 : x.term < 1
  · simp [h1] at h
  by_cases h2 : 1048576 < x.term
  · simp [h1, h2] at h
  by_cases h3 : x.time < 0
  · simp [h1, h2, h3] at h
  by_cases h4 : 1073741824 < x.time
  · simp [h1, h2, h3, h4] at h
  simp only [h1, h2, h3, h4, if_false] at h
  refine ⟨by omega, by omega, by omega, by omega, ?_⟩
  cases hx : x.nop
  · rw [hx] at h
    exact ⟨fun h => (by cases h), call_bounds (by simpa using h)⟩
  · rw [hx] at h
    simp only [if_true] at h
    split at h
    · rename_i hn
      have := noCall_iff.1 hn
      exact ⟨fun _ => this.1, .inl this⟩
    · cases h
theorem item_bounds {x : Item} (h : x.check = 0) : x.key.size ≤ 1000 ∧ x.field.size ≤ 1000 ∧ x.text.size ≤ 1000 ∧ inNum x.n ∧ inNum x.client ∧ inNum x.seq ∧ inNum x.term ∧ inNum x.time := by
  obtain ⟨h1, h2, h3, h4, _, h5⟩ := item_ok h
  have hz : (⟨#[]⟩ : ByteArray).size = 0 := rfl
  unfold inNum
  rcases h5 with ⟨a, b, c, d, e, f, g⟩ | ⟨a, b, c, d, e⟩
  · rw [a, b, d, e, f, g, hz]; omega
  · have := cmd_bounds e; omega
structure WCmd where
  k : Int
  key : ByteArray
  field : ByteArray
  text : ByteArray
  n : Int
def wcmdR (r : Rd) : WCmd × Rd :=
  let a := smallR r
  let b := txtR a.2
  let c := txtR b.2
  let d := txtR c.2
  let e := numR d.2
  (⟨a.1, b.1, c.1, d.1, e.1⟩, e.2)
def callR (r : Rd) : (Int × Int × WCmd) × Rd :=
  let a := numR r
  if a.1 = 0 then ((0, 0, ⟨0, ⟨#[]⟩, ⟨#[]⟩, ⟨#[]⟩, 0⟩), a.2)
  else
    let b := numR a.2
    let c := wcmdR b.2
    ((a.1, b.1, c.1), c.2)
def itemR (r : Rd) : Item × Bool × Rd :=
  let a := numR r
  let b := numR a.2
  let c := smallR b.2
  if c.1 = 0 then
    let d := callR c.2
    (⟨a.1, b.1, false, d.1.1, d.1.2.1, d.1.2.2.k, d.1.2.2.key, d.1.2.2.field, d.1.2.2.text, d.1.2.2.n⟩, true, d.2)
  else (⟨a.1, b.1, decide (c.1 = 1), 0, 0, 0, ⟨#[]⟩, ⟨#[]⟩, ⟨#[]⟩, 0⟩, decide (c.1 = 1), c.2)
theorem wcmdR_app {k : Int} {key field text : ByteArray} {n : Int} (hk : 0 ≤ k ∧ k < 256) (h1 : key.size ≤ 255) (h2 : field.size ≤ 255) (h3 : text.size ≤ 255) (hn : inNum n) (rest : List UInt8) :
    wcmdR ⟨cmdB k key field text n ++ rest, false⟩ = (⟨k, key, field, text, n⟩, ⟨rest, false⟩) := by
  unfold wcmdR cmdB
  simp only [List.append_assoc, List.cons_append, List.nil_append, smallR_app, txtR_app h1, txtR_app h2, txtR_app h3, numR_app hn, smallB_toNat hk.1 hk.2]
  rw [Int.toNat_of_nonneg hk.1]
theorem itemR_app {x : Item} (h : x.check = 0) (rest : List UInt8) : itemR ⟨itemB x ++ rest, false⟩ = (x, true, ⟨rest, false⟩) := by
  obtain ⟨h1, h2, h3, h4, h5, h6⟩ := item_ok h
  obtain ⟨_, _, _, b4, b5, b6, b7, b8⟩ := item_bounds h
  cases hx : x.nop
  · have e : itemB x ++ rest = numB x.term ++ (numB x.time ++ (0 :: (callB x.client x.seq x.k x.key x.field x.text x.n ++ rest))) := by simp [itemB, hx]
    unfold itemR
    rw [e]
    simp only [numR_app b7, numR_app b8, smallR_app]
    rw [if_pos (by decide)]
    rcases h6 with ⟨c1, c2, c3, c4, c5, c6, c7⟩ | ⟨c1, c2, c3, c4, c5⟩
    · have e2 : callB x.client x.seq x.k x.key x.field x.text x.n ++ rest = numB 0 ++ rest := by simp [callB, c1]
      have : callR ⟨callB x.client x.seq x.k x.key x.field x.text x.n ++ rest, false⟩ = ((0, 0, ⟨0, ⟨#[]⟩, ⟨#[]⟩, ⟨#[]⟩, 0⟩), ⟨rest, false⟩) := by
        unfold callR
        rw [e2, numR_app (by unfold inNum; omega)]
        simp
      rw [this]
      cases x
      simp_all
    · have e2 : callB x.client x.seq x.k x.key x.field x.text x.n ++ rest = numB x.client ++ (numB x.seq ++ (cmdB x.k x.key x.field x.text x.n ++ rest)) := by simp [callB, show 0 < x.client by omega]
      have hb := cmd_bounds c5
      have : callR ⟨callB x.client x.seq x.k x.key x.field x.text x.n ++ rest, false⟩ = ((x.client, x.seq, ⟨x.k, x.key, x.field, x.text, x.n⟩), ⟨rest, false⟩) := by
        unfold callR
        rw [e2]
        simp only [numR_app b5, numR_app b6, wcmdR_app (k := x.k) (by omega) (by omega : x.key.size ≤ 255) (by omega : x.field.size ≤ 255) (by omega : x.text.size ≤ 255) b4]
        rw [if_neg (by omega)]
      rw [this]
      cases x
      simp_all
  · have e : itemB x ++ rest = numB x.term ++ (numB x.time ++ (1 :: rest)) := by simp [itemB, hx]
    unfold itemR
    rw [e]
    simp only [numR_app b7, numR_app b8, smallR_app]
    rw [if_neg (by decide)]
    have h0 := h5 hx
    rcases h6 with ⟨c1, c2, c3, c4, c5, c6, c7⟩ | ⟨c1, _⟩
    · cases x
      simp_all
    · omega
theorem itemB_inj {x y : Item} (hx : x.check = 0) (hy : y.check = 0) (h : itemB x = itemB y) : x = y := by
  have h1 := itemR_app hx []
  have h2 := itemR_app hy []
  rw [h, h2] at h1
  exact (congrArg (fun p => p.1) h1).symm
end Go.Proofs.Ytpdcfljbabpakaa

/- Items out of bytes: what the reader answers. -/
set_option linter.unusedVariables false
set_option linter.unusedSimpArgs false
set_option maxRecDepth 100000
set_option maxHeartbeats 8000000
namespace Go.Proofs.Ytpdcfljbabpakaa
open Go Go.RowKit Go.Proofs.AE
variable {G : Nat → AV}
abbrev WCmd.cells (c : WCmd) : List C := [iC c.k, sC c.key, sC c.field, sC c.text, iC c.n]
def zeroItem : Item := ⟨0, 0, false, 0, 0, 0, ⟨#[]⟩, ⟨#[]⟩, ⟨#[]⟩, 0⟩
/-- What is read of bytes, and what is wrong. -/
def decItem (l : List UInt8) : Item × Int :=
  if 20000 < l.length then (zeroItem, 1)
  else
    let a := itemR ⟨l, false⟩
    if a.2.2.short then (zeroItem, 9)
    else if a.2.1 = false ∨ 0 < a.2.2.rest.length then (zeroItem, 8)
    else if a.1.check = 0 then (a.1, 0) else (zeroItem, a.1.check)
theorem checkItemV_c (x : Item) : PCall Try.prog G 45 [.agg (x.row.map .v)] (iV x.check) := checkItem_c (G := G) x.term x.time x.nop x.client x.seq x.k x.key x.field x.text x.n
end Go.Proofs.Ytpdcfljbabpakaa

/- Items as bytes: there and back, torn, one form. -/
set_option linter.unusedVariables false
set_option linter.unusedSimpArgs false
set_option maxRecDepth 100000
set_option maxHeartbeats 8000000
namespace Go.Proofs.Ytpdcfljbabpakaa
open Go Go.RowKit Go.Proofs.AE
variable {G : Nat → AV}
theorem itemB_pos (x : Item) : 0 < (itemB x).length := by simp [itemB, numB_len]; omega
theorem itemB_short {x : Item} (h : x.check = 0) : (itemB x).length ≤ 200 := by
  obtain ⟨_, _, _, _, _, h6⟩ := item_ok h
  unfold itemB
  cases x.nop
  · simp only [Bool.false_eq_true, if_false, List.length_append, numB_len, callB, List.length_cons, List.length_nil]
    split
    · rename_i hp
      rcases h6 with ⟨c1, _⟩ | ⟨_, _, _, _, c5⟩
      · omega
      · have hb := cmd_bounds c5
        simp only [cmdB, List.length_append, textB_len, numB_len, List.length_cons, List.length_nil]
        omega
    · simp
  · simp [numB_len]
theorem dec_back {x : Item} (h : x.check = 0) : decItem (itemB x) = (x, 0) := by
  have hl := itemB_short h
  have hr := itemR_app h []
  rw [List.append_nil] at hr
  unfold decItem
  rw [if_neg (by omega), hr]
  simp [h]
theorem dec_more {x : Item} (h : x.check = 0) (t : UInt8) : decItem (itemB x ++ [t]) = (zeroItem, 8) := by
  have hl := itemB_short h
  have hr := itemR_app h [t]
  unfold decItem
  rw [if_neg (by simp; omega), hr]
  simp
theorem reads_cmd : Reads wcmdR := by
  have h1 : Reads (fun r => let a := txtR r; let e := numR a.2; ((a.1, e.1), e.2)) := Reads.bind (g := fun _ r => numR r) (fun a b => (a, b)) reads_text fun _ => reads_num
  have h2 : Reads (fun r => let a := txtR r; let b := txtR a.2; let e := numR b.2; ((a.1, b.1, e.1), e.2)) := Reads.bind (g := fun _ r => let a := txtR r; let e := numR a.2; ((a.1, e.1), e.2)) (fun a b => (a, b.1, b.2)) reads_text fun _ => h1
  have h3 : Reads (fun r => let z := txtR r; let a := txtR z.2; let b := txtR a.2; let e := numR b.2; ((z.1, a.1, b.1, e.1), e.2)) := Reads.bind (g := fun _ r => let a := txtR r; let b := txtR a.2; let e := numR b.2; ((a.1, b.1, e.1), e.2)) (fun a b => (a, b.1, b.2.1, b.2.2)) reads_text fun _ => h2
  exact Reads.bind (g := fun _ r => let z := txtR r; let a := txtR z.2; let b := txtR a.2; let e := numR b.2; ((z.1, a.1, b.1, e.1), e.2)) (fun (k : Nat) b => (⟨(k : Int), b.1, b.2.1, b.2.2.1, b.2.2.2⟩ : WCmd)) reads_small fun _ => h3
theorem Reads.pure {α : Type} (a : α) : Reads (fun r => (a, r)) := ⟨fun _ => rfl, fun _ _ _ => rfl⟩
theorem reads_call : Reads callR := by
  have h1 : ∀ a : Int, Reads (fun r => if a = 0 then (((0, 0, ⟨0, ⟨#[]⟩, ⟨#[]⟩, ⟨#[]⟩, 0⟩) : Int × Int × WCmd), r) else ((a, (numR r).1, (wcmdR (numR r).2).1), (wcmdR (numR r).2).2)) := by
    intro a
    by_cases h : a = 0
    · simp only [h, if_true]; exact Reads.pure _
    · simp only [h, if_false]
      exact Reads.bind (g := fun _ r => wcmdR r) (fun b c => (a, b, c)) reads_num fun _ => reads_cmd
  have h2 := Reads.bind (fun _ b => b) reads_num h1
  have he : callR = (fun r => ((if (numR r).1 = 0 then (((0, 0, ⟨0, ⟨#[]⟩, ⟨#[]⟩, ⟨#[]⟩, 0⟩) : Int × Int × WCmd), (numR r).2) else (((numR r).1, (numR (numR r).2).1, (wcmdR (numR (numR r).2).2).1), (wcmdR (numR (numR r).2).2).2)).1, (if (numR r).1 = 0 then (((0, 0, ⟨0, ⟨#[]⟩, ⟨#[]⟩, ⟨#[]⟩, 0⟩) : Int × Int × WCmd), (numR r).2) else (((numR r).1, (numR (numR r).2).1, (wcmdR (numR (numR r).2).2).1), (wcmdR (numR (numR r).2).2).2)).2)) := by
    funext r
    simp only [callR]
  rw [he]
  exact h2
theorem reads_item : Reads (fun r => (((itemR r).1, (itemR r).2.1), (itemR r).2.2)) := by
  have h3 : ∀ (t m : Int) (c : Nat), Reads (fun r => if c = 0 then (((⟨t, m, false, (callR r).1.1, (callR r).1.2.1, (callR r).1.2.2.k, (callR r).1.2.2.key, (callR r).1.2.2.field, (callR r).1.2.2.text, (callR r).1.2.2.n⟩, true) : Item × Bool), (callR r).2)
      else (((⟨t, m, decide (c = 1), 0, 0, 0, ⟨#[]⟩, ⟨#[]⟩, ⟨#[]⟩, 0⟩, decide (c = 1)) : Item × Bool), r)) := by
    intro t m c
    by_cases h : c = 0
    · simp only [h, if_true]
      exact reads_call.map fun q => ((⟨t, m, false, q.1, q.2.1, q.2.2.k, q.2.2.key, q.2.2.field, q.2.2.text, q.2.2.n⟩, true) : Item × Bool)
    · simp only [h, if_false]; exact Reads.pure _
  have h2 := fun t m => Reads.bind (fun _ b => b) reads_small (h3 t m)
  have h1 := fun t => Reads.bind (fun _ b => b) reads_num (h2 t)
  have h0 := Reads.bind (fun _ b => b) reads_num h1
  refine cast (congrArg Reads ?_) h0
  funext r
  simp only [itemR]
  split <;> rfl
theorem dec_torn {x : Item} (h : x.check = 0) {k : Nat} (hk : k < (itemB x).length) : decItem ((itemB x).take k) = (zeroItem, 9) := by
  have hl := itemB_short h
  have hs : (itemR ⟨(itemB x).take k, false⟩).2.2.short = true := by
    cases hq : (itemR ⟨(itemB x).take k, false⟩).2.2.short with
    | true => rfl
    | false =>
      exfalso
      have h1 := reads_item.ext ((itemB x).take k) ((itemB x).drop k) hq
      rw [List.take_append_drop] at h1
      have h2 := itemR_app h []
      rw [List.append_nil] at h2
      simp only [h2] at h1
      have h3 := congrArg (fun p => p.2.rest) h1
      simp only at h3
      have h4 := congrArg List.length h3
      simp at h4
      omega
  unfold decItem
  rw [if_neg (by simp; omega)]
  simp only [hs, if_true]
theorem cmd_eats' {r : Rd} (h : (wcmdR r).2.short = false) (hn : inNum (wcmdR r).1.n) : r.short = false ∧ r.rest = cmdB (wcmdR r).1.k (wcmdR r).1.key (wcmdR r).1.field (wcmdR r).1.text (wcmdR r).1.n ++ (wcmdR r).2.rest := by
  simp only [wcmdR] at h hn ⊢
  obtain ⟨a4, b4⟩ := num_eats' h hn
  obtain ⟨a3, b3⟩ := text_eats' a4
  obtain ⟨a2, b2⟩ := text_eats' a3
  obtain ⟨a1, b1⟩ := text_eats' a2
  obtain ⟨a0, b0, _⟩ := small_eats' a1
  refine ⟨a0, ?_⟩
  unfold cmdB
  rw [b0, b1, b2, b3, b4]
  simp
theorem call_eats' {r : Rd} (h : (callR r).2.short = false) (hc : 0 ≤ (callR r).1.1 ∧ inNum (callR r).1.1) (hs : inNum (callR r).1.2.1) (hn : inNum (callR r).1.2.2.n) :
    r.short = false ∧ r.rest = callB (callR r).1.1 (callR r).1.2.1 (callR r).1.2.2.k (callR r).1.2.2.key (callR r).1.2.2.field (callR r).1.2.2.text (callR r).1.2.2.n ++ (callR r).2.rest := by
  unfold callR at h hc hs hn ⊢
  by_cases h0 : (numR r).1 = 0
  · simp only [h0, if_true] at h hc hs hn ⊢
    obtain ⟨a, b⟩ := num_eats' h (by rw [h0]; exact hc.2)
    refine ⟨a, ?_⟩
    rw [b, h0]
    simp [callB]
  · simp only [h0, if_false] at h hc hs hn ⊢
    obtain ⟨a2, b2⟩ := cmd_eats' h hn
    obtain ⟨a1, b1⟩ := num_eats' a2 hs
    obtain ⟨a0, b0⟩ := num_eats' a1 hc.2
    refine ⟨a0, ?_⟩
    unfold callB
    rw [if_pos (by omega), b0, b1, b2]
    simp
theorem item_eats {l : List UInt8} (h : (itemR ⟨l, false⟩).2.2.short = false) (hok : (itemR ⟨l, false⟩).2.1 = true) (hr : (itemR ⟨l, false⟩).2.2.rest = []) (hc : (itemR ⟨l, false⟩).1.check = 0) : itemB (itemR ⟨l, false⟩).1 = l := by
  obtain ⟨_, _, _, c4, c5, c6, c7, c8⟩ := item_bounds hc
  obtain ⟨_, _, _, _, _, h6⟩ := item_ok hc
  have hpos : 0 ≤ (itemR ⟨l, false⟩).1.client := by rcases h6 with ⟨a, _⟩ | ⟨a, _⟩ <;> omega
  clear h6 hc
  unfold itemR at h hok hr hpos c4 c5 c6 c7 c8 ⊢
  by_cases h0 : (smallR (numR (numR ⟨l, false⟩).2).2).1 = 0
  · simp only [h0, if_true] at h hok hr hpos c4 c5 c6 c7 c8 ⊢
    obtain ⟨a3, b3⟩ := call_eats' h ⟨hpos, c5⟩ c6 c4
    obtain ⟨a2, b2, _⟩ := small_eats' a3
    obtain ⟨a1, b1⟩ := num_eats' a2 c8
    obtain ⟨a0, b0⟩ := num_eats' a1 c7
    unfold itemB
    simp only at b0
    rw [hr, List.append_nil] at b3
    rw [b3, h0] at b2
    rw [b2] at b1
    rw [b1] at b0
    refine Eq.trans ?_ b0.symm
    simp [show smallB (0 : Int) = 0 by decide]
  · simp only [h0, if_false] at h hok hr hpos c4 c5 c6 c7 c8 ⊢
    have h1 : (smallR (numR (numR ⟨l, false⟩).2).2).1 = 1 := by simpa using hok
    obtain ⟨a2, b2, _⟩ := small_eats' h
    obtain ⟨a1, b1⟩ := num_eats' a2 c8
    obtain ⟨a0, b0⟩ := num_eats' a1 c7
    unfold itemB
    simp only at b0
    rw [hr, h1] at b2
    rw [b2] at b1
    rw [b1] at b0
    refine Eq.trans ?_ b0.symm
    simp [h1, show smallB (1 : Int) = 1 by decide]
theorem dec_fixed {l : List UInt8} (h : (decItem l).2 = 0) : (decItem l).1.check = 0 ∧ itemB (decItem l).1 = l := by
  unfold decItem at h ⊢
  split at h
  · cases h
  · rename_i h1
    rw [if_neg h1]
    simp only at h ⊢
    split at h
    · cases h
    · rename_i h2
      rw [if_neg h2]
      split at h
      · cases h
      · rename_i h3
        rw [if_neg h3]
        split at h
        · rename_i h4
          rw [if_pos h4]
          simp only [not_or, Nat.not_lt, Nat.le_zero] at h3
          exact ⟨h4, item_eats (by simpa using h2) (by simpa using h3.1) (List.eq_nil_of_length_eq_zero h3.2) h4⟩
        · rename_i h4
          exact absurd h h4
theorem dec_err {l : List UInt8} (h : (decItem l).2 ≠ 0) : (decItem l).1 = zeroItem := by
  unfold decItem at h ⊢
  split
  · rfl
  · simp only
    split
    · rfl
    · split
      · rfl
      · split
        · rename_i a b c d
          rw [if_neg a] at h
          simp only at h
          rw [if_neg b, if_neg c, if_pos d] at h
          exact absurd rfl h
        · rfl
end Go.Proofs.Ytpdcfljbabpakaa

/- Logs: what makes them, what checks them. -/
set_option linter.unusedVariables false
set_option linter.unusedSimpArgs false
set_option maxRecDepth 100000
set_option maxHeartbeats 8000000
namespace Go.Proofs.Ytpdcfljbabpakaa
open Go Go.RowKit Go.Proofs.AE
variable {G : Nat → AV}
noncomputable def logItems (l : List Deed) (base : Int) : List Item := itemsOf l (if pk base 12 = 0 then 1 else 2)
abbrev logC (base bt : Int) (x : List Item) : List C := [iC base, iC bt, .v (.sl (x.map Item.row))]
/-- Are items in order behind a term and a time? -/
def chk : List Item → Int → Int → Bool
  | [], _, _ => true
  | x :: l, t, m => x.check == 0 && (decide (t ≤ x.term) && (decide (m ≤ x.time) && chk l x.term x.time))
def headOk (base bt : Int) (len : Nat) : Bool :=
  !decide (base < 0) && (!decide (bt < 0) && (!decide (1048576 < bt) && ((base == 0) == (bt == 0) && (!decide (200 < (len : Int)) && !decide (1048576 - (len : Int) < base)))))
def checkLog (base bt : Int) (x : List Item) : Int := if headOk base bt x.length then (if chk x bt 0 then 0 else 13) else 13
theorem checkLog_c (base bt : Int) (x : List Item) (hx : (x.length : Int) ≤ 9223372036854775807) :
    PCall Try.prog G 48 [.agg (logC base bt x)] (iV (checkLog base bt x)) := by
  refine pcallc mixed Try.func48 ac_ledger_Check ?_
  have e1 : IntKind.i64.wrap (1048576 - (x.length : Int)) = 1048576 - (x.length : Int) := IntWalk.i64_in _ (by omega)
  repeat' (first | (with_reducible first | refine Cn (fun h => ?_) fun h => ?_ | refine And.intro ?_ ?_ | refine wR ?_ | exact wr _ _ | refine wa ?_ | apply awp_join) | (with_reducible refine CallZ.z ?_) | simp -dsimp [go_sem, e1])
  all_goals first
    | (with_reducible refine awp_loop (fun y : Nat × Int × Int => ⟨[(3, iV y.2.1), (4, iV y.2.2), (47, .one (.v (.sl (x.map Item.row)))), (48, iV x.length), (49, iV y.1)], G, []⟩) (fun y => y.1 ≤ x.length ∧ chk x bt 0 = chk (x.drop y.1) y.2.1 y.2.2) (fun y => x.length - y.1) (0, bt, 0) ?_ ?_ ?_)
    | (simp only [Bool.not_true, Bool.not_false] at *; simp only [checkLog, headOk, *]; rfl)
    | (simp_all [checkLog, headOk]; done)
  · refine weak_auto ?_
    simp -dsimp [go_sem]
  · simp
  · have hh : headOk base bt x.length = true := by simp_all [headOk]
    have hcl : checkLog base bt x = if chk x bt 0 then 0 else 13 := by simp [checkLog, hh]
    rintro ⟨i, t, m⟩ ⟨a1, a2⟩
    simp only at a1 a2
    rw [a2] at hcl
    simp -dsimp [go_sem]
    refine Cnd.intro (fun h => ?_) (fun h => ?_)
    · have hlt : i < x.length := by simpa using h
      obtain ⟨y, hy⟩ : ∃ y, x[i]? = some y := ⟨_, List.getElem?_eq_getElem hlt⟩
      have hgi : (x.map Item.row)[i]? = some y.row := by simp [hy]
      have hdrop : x.drop i = y :: x.drop (i + 1) := by
        rw [List.drop_eq_getElem_cons hlt]
        congr 1
        rw [List.getElem?_eq_getElem hlt] at hy
        exact Option.some.inj hy
      rw [hdrop] at hcl a2
      have n1 : decide (t ≤ y.term) = !decide (y.term < t) := by by_cases h : t ≤ y.term <;> simp [h] <;> omega
      have n2 : decide (m ≤ y.time) = !decide (y.time < m) := by by_cases h : m ≤ y.time <;> simp [h] <;> omega
      have n3 : (y.check == 0) = !(y.check != 0) := by simp [bne]
      simp only [chk, n1, n2, n3] at hcl a2
      have hck : checkItem y.term y.time y.nop y.client y.seq y.k y.key y.field y.text y.n = y.check := rfl
      have e4 : IntKind.i64.wrap ((i : Int) + 1) = (i : Int) + 1 := IntWalk.i64_in _ (by omega)
      repeat' (first | (with_reducible first | refine Cn (fun h => ?_) fun h => ?_ | refine And.intro ?_ ?_ | refine wR ?_ | exact wr _ _ | refine wa ?_ | apply awp_join | refine q (checkItem_c _ _ _ _ _ _ _ _ _ _) ?_ | refine qd (checkItem_c _ _ _ _ _ _ _ _ _ _) ?_ | refine qz (checkItem_c _ _ _ _ _ _ _ _ _ _) ?_) | (with_reducible refine CallZ.z ?_) | simp -dsimp [go_sem, hgi, Item.row, hck, e4])
      all_goals first
        | (with_reducible refine Again.view (i + 1, y.term, y.time) [] [] ?_ ?_ ?_ ?_ ?_ ?_ ?_ ?_)
        | (simp only [Bool.not_true, Bool.not_false] at *; simp only [hcl, *]; rfl)
        | (simp_all; done)
      · rfl
      · rfl
      · simp
      · simp
      · simp -dsimp [go_sem]
      · exact trivial
      · refine ⟨hlt, ?_⟩
        simp only [Bool.not_true, Bool.not_false] at *
        simp only [a2, *]
        simp
      · show x.length - (i + 1) < x.length - i
        omega
    · have hge : ¬ i < x.length := by simpa using h
      have : i = x.length := by omega
      subst this
      simp [chk] at hcl
      simp -dsimp [go_sem, hcl]
end Go.Proofs.Ytpdcfljbabpakaa

/- Places and terms of logs. -/
set_option linter.unusedVariables false
set_option linter.unusedSimpArgs false
set_option maxRecDepth 100000
set_option maxHeartbeats 8000000
namespace Go.Proofs.Ytpdcfljbabpakaa
open Go Go.RowKit Go.Proofs.AE
variable {G : Nat → AV}
def lastTerm (bt : Int) (x : List Item) : Int := match x[x.length - 1]? with | some y => y.term | none => bt
theorem last_c (base bt : Int) (x : List Item) (hb : 0 ≤ base ∧ base ≤ 1048576) (hx : x.length ≤ 200) : PCall Try.prog G 57 [.agg (logC base bt x)] (.tup [iV (base + x.length), iV (lastTerm bt x)]) := by
  have e1 : IntKind.i64.wrap (base + x.length) = base + x.length := IntWalk.i64_in _ (by omega)
  have e2 : IntKind.i64.wrap ((x.length : Int) - 1) = (x.length : Int) - 1 := IntWalk.i64_in _ (by omega)
  refine pcallc mixed Try.func57 ac_ledger_last ?_
  by_cases h0 : 0 < x.length
  · obtain ⟨y, hy⟩ : ∃ y, x[x.length - 1]? = some y := ⟨_, List.getElem?_eq_getElem (by omega)⟩
    have hl : lastTerm bt x = y.term := by unfold lastTerm; rw [hy]
    have hn : ((x.length : Int) - 1).toNat = x.length - 1 := by omega
    have hgi : (x.map Item.row)[x.length - 1]? = some y.row := by rw [List.getElem?_map, hy]; rfl
    have hne : ¬ x = [] := by intro h; rw [h] at h0; simp at h0
    rw [hl]
    repeat' (first | (with_reducible first | refine Cn (fun h => ?_) fun h => ?_ | refine And.intro ?_ ?_ | refine wR ?_ | exact wr _ _ | refine wa ?_ | apply awp_join) | (with_reducible refine CallZ.z ?_) | simp -dsimp [go_sem, e1, e2, hn, hgi, Item.row])
    all_goals first | omega | simp_all
  · have hx0 : x = [] := List.eq_nil_of_length_eq_zero (by omega)
    subst hx0
    repeat' (first | (with_reducible first | refine Cn (fun h => ?_) fun h => ?_ | refine And.intro ?_ ?_ | refine wR ?_ | exact wr _ _ | refine wa ?_ | apply awp_join) | (with_reducible refine CallZ.z ?_) | simp -dsimp [go_sem, lastTerm])
    all_goals simp_all [lastTerm]
theorem last_c' (base bt : Int) (x : List Item) (h : checkLog base bt x = 0) : 0 ≤ base ∧ base ≤ 1048576 ∧ x.length ≤ 200 ∧ 0 ≤ bt ∧ bt ≤ 1048576 := by
  unfold checkLog at h
  split at h
  · rename_i hh
    simp [headOk] at hh
    omega
  · cases h
theorem lastGood_c (base bt : Int) (x : List Item) (h : checkLog base bt x = 0) : PCall Try.prog G 47 [.agg (logC base bt x)] (.tup [iV (base + x.length), iV (lastTerm bt x), iV 0]) := by
  obtain ⟨b1, b2, b3, b4, b5⟩ := last_c' base bt x h
  refine pcallc mixed Try.func47 ac_ledger_Last ?_
  repeat' (first | (with_reducible first | refine Cn (fun h => ?_) fun h => ?_ | refine And.intro ?_ ?_ | refine wR ?_ | exact wr _ _ | refine wa ?_ | apply awp_join | refine q1 (by exact checkLog_c _ _ _ (by omega)) ?_ | refine q1d (by exact checkLog_c _ _ _ (by omega)) ?_ | refine q (last_c _ _ _ ⟨b1, b2⟩ b3) ?_ | refine qd (last_c _ _ _ ⟨b1, b2⟩ b3) ?_ | refine qz (last_c _ _ _ ⟨b1, b2⟩ b3) ?_) | (with_reducible refine CallZ.z ?_) | simp -dsimp [go_sem, h])
/-- The term of a place, and what is wrong. -/
def termAt (base bt : Int) (x : List Item) (place : Int) : Int := if place < base then 0 else if place = base then bt else if (x.length : Int) < place - base then 0 else match x[(place - base - 1).toNat]? with | some y => y.term | none => 0
def termErr (base : Int) (len : Nat) (place : Int) : Int := if place < base then 11 else if place = base then 0 else if (len : Int) < place - base then 5 else 0
theorem term_c (base bt : Int) (x : List Item) (place : Int) (hb : 0 ≤ base ∧ base ≤ 1048576) (hx : x.length ≤ 200) (hp : 0 ≤ place ∧ place ≤ 1048576) : PCall Try.prog G 58 [.agg (logC base bt x), iV place] (.tup [iV (termAt base bt x place), iV (termErr base x.length place)]) := by
  have e1 : IntKind.i64.wrap (place - base) = place - base := IntWalk.i64_in _ (by omega)
  have e2 : IntKind.i64.wrap (place - base - 1) = place - base - 1 := IntWalk.i64_in _ (by omega)
  by_cases h1 : place < base
  · refine pcallc mixed Try.func58 ac_ledger_term ?_
    repeat' (first | (with_reducible first | refine Cn (fun h => ?_) fun h => ?_ | refine And.intro ?_ ?_ | refine wR ?_ | exact wr _ _ | refine wa ?_ | apply awp_join) | (with_reducible refine CallZ.z ?_) | simp -dsimp [go_sem, h1, termAt, termErr])
  by_cases h2 : place = base
  · refine pcallc mixed Try.func58 ac_ledger_term ?_
    subst h2
    repeat' (first | (with_reducible first | refine Cn (fun h => ?_) fun h => ?_ | refine And.intro ?_ ?_ | refine wR ?_ | exact wr _ _ | refine wa ?_ | apply awp_join) | (with_reducible refine CallZ.z ?_) | simp -dsimp [go_sem, termAt, termErr])
  by_cases h3 : (x.length : Int) < place - base
  · refine pcallc mixed Try.func58 ac_ledger_term ?_
    repeat' (first | (with_reducible first | refine Cn (fun h => ?_) fun h => ?_ | refine And.intro ?_ ?_ | refine wR ?_ | exact wr _ _ | refine wa ?_ | apply awp_join) | (with_reducible refine CallZ.z ?_) | simp -dsimp [go_sem, h1, h2, h3, e1, termAt, termErr])
    all_goals simp_all
  · obtain ⟨y, hy⟩ : ∃ y, x[(place - base - 1).toNat]? = some y := ⟨_, List.getElem?_eq_getElem (by omega)⟩
    have hgi : (x.map Item.row)[(place - base - 1).toNat]? = some y.row := by rw [List.getElem?_map, hy]; rfl
    have hgi' : (x.map Item.row)[(place - base).toNat - 1]? = some y.row := by rw [show (place - base).toNat - 1 = (place - base - 1).toNat by omega]; exact hgi
    have hpos : 0 ≤ place - base - 1 := by omega
    have hta : termAt base bt x place = y.term := by unfold termAt; rw [if_neg h1, if_neg h2, if_neg h3, hy]
    have hte : termErr base x.length place = 0 := by unfold termErr; rw [if_neg h1, if_neg h2, if_neg h3]
    refine pcallc mixed Try.func58 ac_ledger_term ?_
    rw [hta, hte]
    repeat' (first | (with_reducible first | refine Cn (fun h => ?_) fun h => ?_ | refine And.intro ?_ ?_ | refine wR ?_ | exact wr _ _ | refine wa ?_ | apply awp_join) | (with_reducible refine CallZ.z ?_) | simp -dsimp [go_sem, h1, h2, h3, e1, e2, hgi, hgi', Item.row])
    all_goals first | omega | simp_all
theorem termGood_c (base bt : Int) (x : List Item) (place : Int) (h : checkLog base bt x = 0) (hp : 0 ≤ place ∧ place ≤ 1048576) : PCall Try.prog G 49 [.agg (logC base bt x), iV place] (.tup [iV (termAt base bt x place), iV (termErr base x.length place)]) := by
  obtain ⟨b1, b2, b3, b4, b5⟩ := last_c' base bt x h
  have p1 : ¬ place < 0 := by omega
  have p2 : ¬ 1048576 < place := by omega
  refine pcallc mixed Try.func49 ac_ledger_Term ?_
  repeat' (first | (with_reducible first | refine Cn (fun h => ?_) fun h => ?_ | refine And.intro ?_ ?_ | refine wR ?_ | exact wr _ _ | refine wa ?_ | apply awp_join | refine q1 (by exact checkLog_c _ _ _ (by omega)) ?_ | refine q1d (by exact checkLog_c _ _ _ (by omega)) ?_ | refine q (term_c _ _ _ _ ⟨b1, b2⟩ b3 hp) ?_ | refine qd (term_c _ _ _ _ ⟨b1, b2⟩ b3 hp) ?_ | refine qz (term_c _ _ _ _ ⟨b1, b2⟩ b3 hp) ?_) | (with_reducible refine CallZ.z ?_) | simp -dsimp [go_sem, h, p1, p2])
theorem termRange_c (base bt : Int) (x : List Item) (place : Int) (h : checkLog base bt x = 0) (hp : place < 0 ∨ 1048576 < place) : PCall Try.prog G 49 [.agg (logC base bt x), iV place] (.tup [iV 0, iV 2]) := by
  obtain ⟨b1, b2, b3, b4, b5⟩ := last_c' base bt x h
  refine pcallc mixed Try.func49 ac_ledger_Term ?_
  repeat' (first | (with_reducible first | refine Cn (fun h => ?_) fun h => ?_ | refine And.intro ?_ ?_ | refine wR ?_ | exact wr _ _ | refine wa ?_ | apply awp_join | refine q1 (by exact checkLog_c _ _ _ (by omega)) ?_ | refine q1d (by exact checkLog_c _ _ _ (by omega)) ?_) | (with_reducible refine CallZ.z ?_) | simp -dsimp [go_sem, h])
  all_goals simp_all
  all_goals omega
end Go.Proofs.Ytpdcfljbabpakaa

/- A made log is a log. -/
set_option linter.unusedVariables false
set_option linter.unusedSimpArgs false
set_option maxRecDepth 100000
set_option maxHeartbeats 8000000
namespace Go.Proofs.Ytpdcfljbabpakaa
open Go Go.RowKit Go.Proofs.AE
theorem itemOf_check (d : Deed) (hd : d.Ok) {term time : Int} (h1 : 1 ≤ term ∧ term ≤ 1048576) (h2 : 0 ≤ time ∧ time ≤ 1073741824) : (itemOf d term time).check = 0 := by
  have hI := itemOf_call d term time
  obtain ⟨t1, t2, t3⟩ := itemOf_head d term time
  unfold Item.check
  rw [t1, t2, t3]
  generalize itemOf d term time = x at *
  have hg := callGood hd.n _ _ _ _ _ _ _ hI
  have n1 : ¬ term < 1 := by omega
  have n2 : ¬ 1048576 < term := by omega
  have n3 : ¬ time < 0 := by omega
  have n4 : ¬ 1073741824 < time := by omega
  by_cases h : pk d.client 5 = 0
  · unfold itemCall at hI
    rw [if_pos (.inl h)] at hI
    simp only [List.cons.injEq, C.v.injEq, V.lit.injEq, Value.int.injEq, Value.string.injEq, and_true, true_and] at hI
    obtain ⟨e1, e2, e3, e4, e5, e6, e7⟩ := hI
    have hnc : noCall x.client x.seq x.k x.key x.field x.text x.n = true := by
      rw [← e1, ← e2, ← e3, ← e4, ← e5, ← e6, ← e7]; decide
    simp [checkItem, n1, n2, n3, n4, h, hnc]
  · simp [checkItem, n1, n2, n3, n4, h, hg]
theorem itemsGo_length : ∀ (l : List Deed) (a b : Int), (itemsGo l a b).length = l.length
  | [], _, _ => rfl
  | d :: l, a, b => by simp [itemsGo, itemsGo_length l]
theorem step_range (d : Deed) : 0 ≤ (pk d.off 4).tdiv 3 ∧ (pk d.off 4).tdiv 3 ≤ 1 ∧ 0 ≤ pk d.wait 3 ∧ pk d.wait 3 ≤ 2 := by
  have q1 := pk_range (n := d.off) (m := 4) (by omega)
  have q2 := pk_range (n := d.wait) (m := 3) (by omega)
  rw [Int.tdiv_eq_ediv_of_nonneg q1.1]
  omega
theorem chk_go : ∀ (l : List Deed) (term time t m : Int), (∀ d ∈ l, d.Ok) → t ≤ term → m ≤ time → 1 ≤ term → 0 ≤ time → term + l.length ≤ 1000 → time + 2 * l.length ≤ 1000 → chk (itemsGo l term time) t m = true
  | [], _, _, _, _, _, _, _, _, _, _, _ => rfl
  | d :: l, term, time, t, m, hd, h1, h2, h3, h4, h5, h6 => by
    obtain ⟨s1, s2, s3, s4⟩ := step_range d
    simp only [List.length_cons] at h5 h6
    push_cast at h5 h6
    obtain ⟨t1, t2, _⟩ := itemOf_head d (term + (pk d.off 4).tdiv 3) (time + pk d.wait 3)
    have hc := itemOf_check d (hd d (List.mem_cons_self ..)) (term := term + (pk d.off 4).tdiv 3) (time := time + pk d.wait 3) (by omega) (by omega)
    simp only [itemsGo, chk, t1, t2, hc]
    rw [chk_go l _ _ _ _ (fun d h => hd d (List.mem_cons_of_mem _ h)) (Int.le_refl _) (Int.le_refl _) (by omega) (by omega) (by omega) (by omega)]
    simp
    omega
theorem logItems_length (l : List Deed) (base : Int) : (logItems l base).length ≤ 30 := by
  unfold logItems itemsOf
  rw [itemsGo_length]
  simp
  omega
abbrev logBT (base : Int) : Int := if pk base 12 = 0 then 0 else 2
theorem made_ok (l : List Deed) (base : Int) (hd : ∀ d ∈ l, d.Ok) : checkLog (pk base 12) (logBT base) (logItems l base) = 0 := by
  have hb := pk_range (n := base) (m := 12) (by omega)
  have hl := logItems_length l base
  have hh : headOk (pk base 12) (logBT base) (logItems l base).length = true := by
    unfold headOk logBT
    by_cases h : pk base 12 = 0 <;> simp [h] <;> omega
  have hc : chk (logItems l base) (logBT base) 0 = true := by
    unfold logItems itemsOf
    have h30 : (l.take 30).length ≤ 30 := by simp; omega
    refine chk_go _ _ _ _ _ (fun d h => hd d (List.mem_of_mem_take h)) ?_ (Int.le_refl _) ?_ (by omega) ?_ (by omega)
    · unfold logBT; split <;> omega
    · split <;> omega
    · split <;> omega
  simp [checkLog, hh, hc]
end Go.Proofs.Ytpdcfljbabpakaa

/- The functions rostrumkeep.LastTold and TermTold answer true. -/
set_option linter.unusedVariables false
set_option linter.unusedSimpArgs false
set_option maxRecDepth 100000
set_option maxHeartbeats 8000000
namespace Go.Proofs.Ytpdcfljbabpakaa
open Go Go.RowKit Go.Proofs.AE
variable {G : Nat → AV}
theorem termAt_last (B T : Int) (x : List Item) : termAt B T x (B + x.length) = lastTerm T x := by
  unfold termAt lastTerm
  rw [if_neg (by omega)]
  by_cases h : x.length = 0
  · rw [if_pos (by omega)]
    rw [List.getElem?_eq_none (by omega)]
  · rw [if_neg (by omega), if_neg (by omega)]
    rw [show (B + (x.length : Int) - B - 1).toNat = x.length - 1 by omega, List.getElem?_eq_getElem (by omega)]
end Go.Proofs.Ytpdcfljbabpakaa

/- Deeds from outside. -/
set_option linter.unusedVariables false
set_option linter.unusedSimpArgs false
set_option maxRecDepth 100000
set_option maxHeartbeats 8000000
namespace Go.Proofs.Ytpdcfljbabpakaa
open Go Go.RowKit Go.Proofs.AE
end Go.Proofs.Ytpdcfljbabpakaa

/- Items behind a place; logs that are trimmed, and matched: what the ledger's functions answer. -/
set_option linter.unusedVariables false
set_option linter.unusedSimpArgs false
set_option maxRecDepth 100000
set_option maxHeartbeats 8000000
namespace Go.Proofs.Ytpdcfljbabpakaa
open Go Go.RowKit Go.Proofs.AE
variable {G : Nat → AV}
abbrev rowsV (x : List Item) : AV := .one (.v (.sl (x.map Item.row)))
/-! ### the same items -/
def Item.same (x y : Item) : Bool := (x.term == y.term) && ((x.time == y.time) && ((x.nop == y.nop) && ((x.client == y.client) && ((x.seq == y.seq) && ((x.k == y.k) && (decide (x.key = y.key) && (decide (x.field = y.field) && (decide (x.text = y.text) && (x.n == y.n)))))))))
theorem Item.same_iff (x y : Item) : x.same y = true ↔ x = y := by
  cases x; cases y; simp [Item.same]
instance : DecidableEq Item := fun x y => decidable_of_iff (x.same y = true) (Item.same_iff x y)
theorem Item.same_dec (x y : Item) : x.same y = decide (x = y) := by
  rw [Bool.eq_iff_iff, Item.same_iff, decide_eq_true_iff]
theorem sameItems_c (a b : List Item) (ha : (a.length : Int) ≤ 9223372036854775807) : PCall Try.prog G 12 [rowsV a, rowsV b] (bV (decide (a = b))) := by
  refine pcallc mixed Try.func12 ac_rostrumkeep_sameItems ?_
  by_cases hl : a.length = b.length
  · repeat' (first | (with_reducible first | refine Cn (fun h => ?_) fun h => ?_ | refine And.intro ?_ ?_ | refine wR ?_ | exact wr _ _ | refine wa ?_ | apply awp_join) | (with_reducible refine CallZ.z ?_) | simp -dsimp [go_sem, hl])
    refine awp_loop (fun i : Nat => ⟨[(0, rowsV a), (1, rowsV b), (5, iV i)], G, []⟩) (fun i => i ≤ a.length ∧ a.take i = b.take i) (fun i => a.length - i) 0 (weak_auto ?_) ⟨Nat.zero_le _, rfl⟩ ?_
    · simp -dsimp [go_sem]
    · rintro i ⟨hi, hx⟩
      simp -dsimp [go_sem]
      refine Cnd.intro (fun h => ?_) (fun h => ?_)
      · have hlt : i < a.length := by simpa using h
        have hlt' : i < b.length := by omega
        have hga : (a.map Item.row)[i]? = some a[i].row := by simp [hlt]
        have hgb : (b.map Item.row)[i]? = some b[i].row := by simp [hlt']
        have hs : a[i].same b[i] = decide (a[i] = b[i]) := Item.same_dec _ _
        have e4 : IntKind.i64.wrap ((i : Int) + 1) = (i : Int) + 1 := IntWalk.i64_in _ (by omega)
        unfold Item.same at hs
        repeat' (first | (with_reducible first | refine Cn (fun h => ?_) fun h => ?_ | refine And.intro ?_ ?_ | refine wR ?_ | exact wr _ _ | refine wa ?_ | apply awp_join) | (with_reducible refine CallZ.z ?_) | simp -dsimp [go_sem, hga, hgb, Item.row, hs, e4])
        all_goals first
          | (with_reducible refine Again.auto (i + 1) ?_ ?_ ?_)
          | skip
        · intro hab; subst hab; simp_all
        · simp -dsimp [go_sem]
        · refine ⟨hlt, ?_⟩
          have hab : a[i] = b[i] := by simp_all
          rw [List.take_succ_eq_append_getElem hlt, List.take_succ_eq_append_getElem hlt', hx, hab]
        · show a.length - (i + 1) < a.length - i
          omega
      · have hge : ¬ i < a.length := by simpa using h
        have hab : a = b := by
          rw [List.take_of_length_le (by omega), List.take_of_length_le (by omega)] at hx
          exact hx
        simp -dsimp [go_sem, hab]
  · have hne : ¬ a = b := fun e => hl (by rw [e])
    have hl' : ¬ ((a.length : Int) = b.length) := by omega
    repeat' (first | (with_reducible first | refine Cn (fun h => ?_) fun h => ?_ | refine And.intro ?_ ?_ | refine wR ?_ | exact wr _ _ | refine wa ?_ | apply awp_join) | (with_reducible refine CallZ.z ?_) | simp -dsimp [go_sem, hl, hne, hl'])
    all_goals simp_all
theorem last_room (base bt : Int) (x : List Item) (h : checkLog base bt x = 0) : base + x.length ≤ 1048576 := by
  unfold checkLog at h
  split at h
  · rename_i hh
    simp [headOk] at hh
    omega
  · cases h
theorem termErr_range {base : Int} {n : Nat} {place : Int} (ht : termErr base n place = 0) : base ≤ place ∧ place - base ≤ n := by
  unfold termErr at ht
  split at ht
  · cases ht
  · split at ht
    · omega
    · split at ht
      · cases ht
      · omega
theorem termErr_ok {base : Int} {n : Nat} {place : Int} (h : base ≤ place ∧ place - base ≤ n) : termErr base n place = 0 := by
  unfold termErr
  rw [if_neg (by omega)]
  split
  · rfl
  · rw [if_neg (by omega)]
/-! ### a place's term, whatever the place -/
theorem termI_c (base bt : Int) (x : List Item) (place : Int) (hb : 0 ≤ base ∧ base + x.length ≤ 1048576) (hx : x.length ≤ 200) (hp : i64 place) : PCall Try.prog G 58 [.agg (logC base bt x), iV place] (.tup [iV (termAt base bt x place), iV (termErr base x.length place)]) := by
  unfold i64 at hp
  by_cases h1 : place < base
  · refine pcallc mixed Try.func58 ac_ledger_term ?_
    repeat' (first | (with_reducible first | refine Cn (fun h => ?_) fun h => ?_ | refine And.intro ?_ ?_ | refine wR ?_ | exact wr _ _ | refine wa ?_ | apply awp_join) | (with_reducible refine CallZ.z ?_) | simp -dsimp [go_sem, h1, termAt, termErr])
  · by_cases h2 : place ≤ 1048576
    · exact term_c base bt x place ⟨hb.1, by omega⟩ hx ⟨by omega, h2⟩
    · have e1 : IntKind.i64.wrap (place - base) = place - base := IntWalk.i64_in _ (by omega)
      have h3 : ¬ place = base := by omega
      have h4 : (x.length : Int) < place - base := by omega
      refine pcallc mixed Try.func58 ac_ledger_term ?_
      repeat' (first | (with_reducible first | refine Cn (fun h => ?_) fun h => ?_ | refine And.intro ?_ ?_ | refine wR ?_ | exact wr _ _ | refine wa ?_ | apply awp_join) | (with_reducible refine CallZ.z ?_) | simp -dsimp [go_sem, h1, h3, h4, e1, termAt, termErr])
      all_goals simp_all

/-! ### clones -/
theorem cloneItems_c (rows : List (List V)) (hu : UL 10 rows) (hx : rows.length ≤ 1000000) : PCall Try.prog G 34 [.one (.v (.sl rows))] (.one (.v (.sl rows))) := by
  refine pcallc mixed Try.func34 ac_slices_Clone_api_Item ?_
  repeat' (first | (with_reducible first | refine Cn (fun h => ?_) fun h => ?_ | refine And.intro ?_ ?_ | refine wR ?_ | exact wr _ _ | refine wa ?_ | apply awp_join | refine q (cases q) ?_ | refine qd (cases q) ?_ | refine qz (cases q) ?_) | (intro q hq) | (with_reducible refine CallZ.z ?_) | simp -dsimp [go_sem])
  all_goals first | omega | exact hu _ ‹_›
theorem ul_rows (x : List Item) : UL 10 (x.map Item.row) := by
  intro r hr
  obtain ⟨y, _, rfl⟩ := List.mem_map.1 hr
  rfl
theorem ul_take {k n : Nat} {rows : List (List V)} (h : UL k rows) : UL k (rows.take n) := fun r hr => h r (List.mem_of_mem_take hr)
theorem ul_drop {k n : Nat} {rows : List (List V)} (h : UL k rows) : UL k (rows.drop n) := fun r hr => h r (List.mem_of_mem_drop hr)

/-! ### behind a place -/
def behind (base : Int) (x : List Item) (place most : Int) : List Item := (x.drop (place - base).toNat).take most.toNat
theorem trim_c (base bt : Int) (x : List Item) (place : Int) (h : checkLog base bt x = 0) (hp : i64 place) (ht : termErr base x.length place = 0) :
    PCall Try.prog G 50 [.agg (logC base bt x), iV place] (.tup [.agg (logC place (termAt base bt x place) (x.drop (place - base).toNat)), iV 0]) := by
  obtain ⟨b1, b2, b3, b4, b5⟩ := last_c' base bt x h
  have b6 := last_room base bt x h
  have hr := termErr_range ht
  have e1 : IntKind.i64.wrap (place - base) = place - base := IntWalk.i64_in _ (by omega)
  have hcl : ∀ n : Nat, UL 10 ((x.map Item.row).drop n) ∧ ((x.map Item.row).drop n).length ≤ 1000000 := fun n => ⟨ul_drop (ul_rows x), by simp; omega⟩
  have htk : (x.map Item.row).take x.length = x.map Item.row := List.take_of_length_le (by simp)
  refine pcallc mixed Try.func50 ac_ledger_Trim ?_
  repeat' (first | (with_reducible first | refine Cn (fun h => ?_) fun h => ?_ | refine And.intro ?_ ?_ | refine wR ?_ | exact wr _ _ | refine wa ?_ | apply awp_join | refine q1 (by exact checkLog_c _ _ _ (by omega)) ?_ | refine q1d (by exact checkLog_c _ _ _ (by omega)) ?_ | refine q (termI_c _ _ _ _ ⟨b1, b6⟩ b3 hp) ?_ | refine qd (termI_c _ _ _ _ ⟨b1, b6⟩ b3 hp) ?_ | refine qz (termI_c _ _ _ _ ⟨b1, b6⟩ b3 hp) ?_ | refine q (cloneItems_c _ (hcl _).1 (hcl _).2) ?_ | refine qd (cloneItems_c _ (hcl _).1 (hcl _).2) ?_ | refine qz (cloneItems_c _ (hcl _).1 (hcl _).2) ?_) | (with_reducible refine CallZ.z ?_) | simp -dsimp [go_sem, htk, h, ht, e1])
  all_goals first | omega | exact ul_rows _ | (simp [List.map_drop]; done) | skip
theorem trimErr_c (base bt : Int) (x : List Item) (place : Int) (h : checkLog base bt x = 0) (hp : i64 place) (ht : termErr base x.length place ≠ 0) :
    PCall Try.prog G 50 [.agg (logC base bt x), iV place] (.tup [.agg (logC 0 0 []), iV (termErr base x.length place)]) := by
  have ht1 : (termErr base x.length place != 0) = true := by simpa using ht
  obtain ⟨b1, b2, b3, b4, b5⟩ := last_c' base bt x h
  have b6 := last_room base bt x h
  refine pcallc mixed Try.func50 ac_ledger_Trim ?_
  repeat' (first | (with_reducible first | refine Cn (fun h => ?_) fun h => ?_ | refine And.intro ?_ ?_ | refine wR ?_ | exact wr _ _ | refine wa ?_ | apply awp_join | refine q1 (by exact checkLog_c _ _ _ (by omega)) ?_ | refine q1d (by exact checkLog_c _ _ _ (by omega)) ?_ | refine q (termI_c _ _ _ _ ⟨b1, b6⟩ b3 hp) ?_ | refine qd (termI_c _ _ _ _ ⟨b1, b6⟩ b3 hp) ?_ | refine qz (termI_c _ _ _ _ ⟨b1, b6⟩ b3 hp) ?_) | (with_reducible refine CallZ.z ?_) | simp -dsimp [go_sem, h, ht1])
end Go.Proofs.Ytpdcfljbabpakaa

/- The tape: records as bytes, and what is recovered of them: plain laws. -/
set_option linter.unusedVariables false
set_option linter.unusedSimpArgs false
set_option maxRecDepth 100000
set_option maxHeartbeats 8000000
namespace Go.Proofs.Ytpdcfljbabpakaa
open Go Go.RowKit Go.Proofs.AE
structure Rcd where
  kind : Int
  term : Int
  fr : Int
  index : Int
  item : Item
  sidx : Int
  sterm : Int
  mach : Mach
def noSnap (r : Rcd) : Bool := r.sidx == 0 && r.sterm == 0 && r.mach.next == 0 && r.mach.clis.isEmpty && r.mach.sto.now == 0 && r.mach.sto.ents.isEmpty
def checkSnap (i t : Int) (m : Mach) : Int := if okNumber i = false ∨ okNumber t = false then 2 else checkM m
def checkRc (r : Rcd) : Int :=
  if r.kind < 1 ∨ 3 < r.kind then 3
  else if (r.kind ≠ 1 ∧ (r.term ≠ 0 ∨ r.fr ≠ 0)) ∨ (r.kind ≠ 2 ∧ (r.index ≠ 0 ∨ r.item ≠ zeroItem)) ∨ (r.kind ≠ 3 ∧ noSnap r = false) then 8
  else if r.kind = 1 then (if okNumber r.term = false ∨ r.fr < -1 ∨ 3 ≤ r.fr then 2 else 0)
  else if r.kind = 2 then (if okNumber r.index = false then 2 else r.item.check)
  else checkSnap r.sidx r.sterm r.mach
def threeB (n : Int) : List UInt8 := [smallB (n / 65536), smallB (n / 256), smallB n]
def valB3 (a b c : UInt8) : Int := a.toNat * 65536 + b.toNat * 256 + c.toNat
def encRc (r : Rcd) : List UInt8 :=
  if r.kind = 1 then 1 :: (threeB r.term ++ [smallB (r.fr + 1)])
  else if r.kind = 2 then 2 :: (threeB r.index ++ itemB r.item)
  else 3 :: (threeB r.sidx ++ (threeB r.sterm ++ machB r.mach))
def frameB (r : Rcd) : List UInt8 := threeB (encRc r).length ++ encRc r
def tapeB (l : List Rcd) : List UInt8 := l.flatMap frameB
def zeroRc : Rcd := ⟨0, 0, 0, 0, zeroItem, 0, 0, zeroM⟩
/-- What is read of a record's bytes; false: it is none. -/
def decRc (b : List UInt8) : Rcd × Bool :=
  match b with
  | [1, x, y, z, f] => let r : Rcd := ⟨1, valB3 x y z, (f.toNat : Int) - 1, 0, zeroItem, 0, 0, zeroM⟩; (r, checkRc r == 0)
  | 2 :: x :: y :: z :: t => if t = [] then (zeroRc, false) else let r : Rcd := ⟨2, 0, 0, valB3 x y z, (decItem t).1, 0, 0, zeroM⟩; (r, (decItem t).2 == 0 && checkRc r == 0)
  | 3 :: x :: y :: z :: u :: v :: w :: t => if t = [] then (zeroRc, false) else let r : Rcd := ⟨3, 0, 0, 0, zeroItem, valB3 x y z, valB3 u v w, (decM t).1⟩; (r, (decM t).2 == 0 && checkRc r == 0)
  | _ => (zeroRc, false)
/-- The records that are whole, and how many bytes they have. -/
def recGo : Nat → List UInt8 → List Rcd × Nat
  | 0, _ => ([], 0)
  | n + 1, d => match d with
    | x :: y :: z :: t =>
      if (t.length : Int) < valB3 x y z then ([], 0)
      else if (decRc (t.take (valB3 x y z).toNat)).2 = false then ([], 0)
      else ((decRc (t.take (valB3 x y z).toNat)).1 :: (recGo n (t.drop (valB3 x y z).toNat)).1, 3 + (valB3 x y z).toNat + (recGo n (t.drop (valB3 x y z).toNat)).2)
    | _ => ([], 0)
def recB (d : List UInt8) : List Rcd × Nat := recGo d.length d
/-! ### records that may be -/
theorem three_back {n : Int} (h0 : 0 ≤ n) (h1 : n < 16777216) : valB3 (smallB (n / 65536)) (smallB (n / 256)) (smallB n) = n := by
  unfold valB3
  have a := smallB_toNat (n := n / 65536) (by omega) (by omega)
  unfold smallB at a ⊢
  rw [UInt8.toNat_ofNat', UInt8.toNat_ofNat', UInt8.toNat_ofNat']
  omega
theorem num3 {n : Int} (h : okNumber n = true) : 0 ≤ n ∧ n < 16777216 := by unfold okNumber at h; simp at h; omega
theorem enc_len {r : Rcd} (h : checkRc r = 0) : 5 ≤ (encRc r).length ∧ (encRc r).length ≤ 13600 := by
  unfold checkRc at h
  unfold encRc
  split at h
  · cases h
  · split at h
    · cases h
    · rename_i h1 h2
      split at h
      · rename_i h3
        rw [if_pos h3]; simp [threeB]
      · rename_i h3
        rw [if_neg h3]
        split at h
        · rename_i h4
          rw [if_pos h4]
          split at h
          · cases h
          · have := itemB_short h; have := itemB_pos r.item
            simp only [List.length_cons, List.length_append, threeB, List.length_nil]; omega
        · rename_i h4
          rw [if_neg h4]
          unfold checkSnap at h
          split at h
          · cases h
          · have := machB_len (checkM_iff.1 h)
            have := machB_pos r.mach
            simp only [List.length_cons, List.length_append, threeB, List.length_nil]; omega
theorem noSnap_iff {r : Rcd} : noSnap r = true ↔ r.sidx = 0 ∧ r.sterm = 0 ∧ r.mach = zeroM := by
  obtain ⟨k, t, f, i, x, si, st, ⟨⟨now, ents⟩, next, clis⟩⟩ := r
  unfold noSnap zeroM zeroS
  simp only [Bool.and_eq_true, beq_iff_eq, List.isEmpty_iff, Mach.mk.injEq, Sto.mk.injEq]
  constructor
  · rintro ⟨⟨⟨⟨⟨a, b⟩, c⟩, d⟩, e⟩, f⟩; exact ⟨a, b, ⟨e, f⟩, c, d⟩
  · rintro ⟨a, b, ⟨e, f⟩, c, d⟩; exact ⟨⟨⟨⟨⟨a, b⟩, c⟩, d⟩, e⟩, f⟩
/-- What a record that may be has. -/
theorem rc_cases {r : Rcd} (h : checkRc r = 0) :
    (∃ t f, r = ⟨1, t, f, 0, zeroItem, 0, 0, zeroM⟩ ∧ okNumber t = true ∧ -1 ≤ f ∧ f < 3) ∨ (∃ i x, r = ⟨2, 0, 0, i, x, 0, 0, zeroM⟩ ∧ okNumber i = true ∧ x.check = 0) ∨ (∃ i t m, r = ⟨3, 0, 0, 0, zeroItem, i, t, m⟩ ∧ okNumber i = true ∧ okNumber t = true ∧ OkM m) := by
  unfold checkRc at h
  split at h
  · cases h
  · rename_i h1
    split at h
    · cases h
    · rename_i h2
      obtain ⟨k, t, f, i, x, si, st, m⟩ := r
      simp only at h h1 h2
      have hs : k ≠ 3 → si = 0 ∧ st = 0 ∧ m = zeroM := fun hk => by
        have : noSnap ⟨k, t, f, i, x, si, st, m⟩ = true := by
          cases hn : noSnap ⟨k, t, f, i, x, si, st, m⟩ with
          | true => rfl
          | false => exact absurd (.inr (.inr ⟨hk, hn⟩)) h2
        exact noSnap_iff.1 this
      have hi : k ≠ 2 → i = 0 ∧ x = zeroItem := fun hk => by
        refine ⟨?_, ?_⟩
        · by_cases e : i = 0; exact e; exact absurd (.inr (.inl ⟨hk, .inl e⟩)) h2
        · by_cases e : x = zeroItem; exact e; exact absurd (.inr (.inl ⟨hk, .inr e⟩)) h2
      have hm : k ≠ 1 → t = 0 ∧ f = 0 := fun hk => by
        refine ⟨?_, ?_⟩
        · by_cases e : t = 0; exact e; exact absurd (.inl ⟨hk, .inl e⟩) h2
        · by_cases e : f = 0; exact e; exact absurd (.inl ⟨hk, .inr e⟩) h2
      split at h
      · rename_i h3
        subst h3
        obtain ⟨rfl, rfl, rfl⟩ := hs (by omega)
        obtain ⟨rfl, rfl⟩ := hi (by omega)
        split at h
        · cases h
        · rename_i h4
          simp only [not_or, Bool.not_eq_false] at h4
          exact .inl ⟨t, f, rfl, h4.1, by omega, by omega⟩
      · rename_i h3
        obtain ⟨rfl, rfl⟩ := hm h3
        split at h
        · rename_i h4
          subst h4
          obtain ⟨rfl, rfl, rfl⟩ := hs (by omega)
          split at h
          · cases h
          · rename_i h5
            exact .inr (.inl ⟨i, x, rfl, by simpa using h5, h⟩)
        · rename_i h4
          have hk : k = 3 := by omega
          subst hk
          obtain ⟨rfl, rfl⟩ := hi (by omega)
          unfold checkSnap at h
          split at h
          · cases h
          · rename_i h5
            simp only [not_or, Bool.not_eq_false] at h5
            exact .inr (.inr ⟨si, st, m, rfl, h5.1, h5.2, checkM_iff.1 h⟩)
theorem dec_enc {r : Rcd} (h : checkRc r = 0) : decRc (encRc r) = (r, true) := by
  have hc := h
  rcases rc_cases h with ⟨t, f, rfl, h1, h2, h3⟩ | ⟨i, x, rfl, h1, h2⟩ | ⟨i, t, m, rfl, h1, h2, h3⟩
  · have a := num3 h1
    have e := three_back a.1 a.2
    have s := smallB_toNat (n := f + 1) (by omega) (by omega)
    have hf : ((smallB (f + 1)).toNat : Int) - 1 = f := by rw [s]; omega
    unfold encRc threeB decRc
    simp only [if_true, List.cons_append, List.nil_append, e, hf, hc]
    rfl
  · have a := num3 h1
    have e := three_back a.1 a.2
    have hp := itemB_pos x
    have hne : itemB x ≠ [] := fun h => by rw [h] at hp; simp at hp
    unfold encRc threeB decRc
    rw [if_neg (by show ¬ (2 : Int) = 1; omega), if_pos (by rfl)]
    simp only [List.cons_append, List.nil_append, hne, if_false, e, dec_back h2, hc]
    rfl
  · have a := num3 h1
    have b := num3 h2
    have e1 := three_back a.1 a.2
    have e2 := three_back b.1 b.2
    have hp := machB_pos m
    have hne : machB m ≠ [] := fun h => by rw [h] at hp; simp at hp
    have hl := machB_len h3
    unfold encRc threeB decRc
    rw [if_neg (by show ¬ (3 : Int) = 1; omega), if_neg (by show ¬ (3 : Int) = 2; omega)]
    simp only [List.cons_append, List.nil_append, hne, if_false, e1, e2, decM_back h3 (by omega), hc]
    rfl
/-! ### what is recovered -/
theorem three_len (n : Int) : (threeB n).length = 3 := rfl
theorem frame_len (r : Rcd) : (frameB r).length = 3 + (encRc r).length := by unfold frameB; rw [List.length_append, three_len]
theorem tape_cons (r : Rcd) (l : List Rcd) : tapeB (r :: l) = frameB r ++ tapeB l := by unfold tapeB; rw [List.flatMap_cons]
theorem tape_app (a b : List Rcd) : tapeB (a ++ b) = tapeB a ++ tapeB b := by unfold tapeB; rw [List.flatMap_append]
theorem rec_nil (m : Nat) : recGo m [] = ([], 0) := by cases m <;> rfl
theorem rec_one {r : Rcd} (h : checkRc r = 0) (n : Nat) (t : List UInt8) : recGo (n + 1) (frameB r ++ t) = (r :: (recGo n t).1, (frameB r).length + (recGo n t).2) := by
  obtain ⟨l1, l2⟩ := enc_len h
  have e := three_back (n := ((encRc r).length : Int)) (by omega) (by omega)
  rw [frame_len]
  unfold frameB threeB
  simp only [List.cons_append, List.nil_append, recGo, e, Int.toNat_natCast, List.length_append]
  rw [if_neg (by push_cast; omega), List.take_left' rfl, List.drop_left' rfl, dec_enc h]
  simp
theorem rec_app : ∀ (l : List Rcd) (tail : List UInt8) (n : Nat), (∀ r ∈ l, checkRc r = 0) → l.length ≤ n → (∀ m, recGo m tail = ([], 0)) → recGo n (tapeB l ++ tail) = (l, (tapeB l).length)
  | [], tail, n, _, _, ht => by simpa [tapeB] using ht n
  | r :: l, tail, n, h, hn, ht => by
    obtain ⟨n, rfl⟩ : ∃ k, n = k + 1 := ⟨n - 1, by simp at hn; omega⟩
    have ih := rec_app l tail n (fun x hx => h x (List.mem_cons_of_mem _ hx)) (by simpa using hn) ht
    rw [tape_cons, List.append_assoc, rec_one (h r (List.mem_cons_self ..)), ih, List.length_append]
theorem torn_tail {r : Rcd} (h : checkRc r = 0) {k : Nat} (hk : k < (frameB r).length) (m : Nat) : recGo m ((frameB r).take k) = ([], 0) := by
  obtain ⟨l1, l2⟩ := enc_len h
  rw [frame_len] at hk
  have e := three_back (n := ((encRc r).length : Int)) (by omega) (by omega)
  cases m with
  | zero => rfl
  | succ m =>
    unfold frameB threeB
    match k, hk with
    | 0, _ => rfl
    | 1, _ => rfl
    | 2, _ => rfl
    | k + 3, hk =>
      simp only [List.cons_append, List.nil_append, List.take_succ_cons, recGo, e]
      rw [if_pos (by rw [List.length_take]; push_cast; omega)]
theorem tape_take : ∀ (l : List Rcd) (k : Nat), (∀ r ∈ l, checkRc r = 0) → ∃ j tail, j ≤ l.length ∧ (tapeB l).take k = tapeB (l.take j) ++ tail ∧ (∀ m, recGo m tail = ([], 0)) ∧ (tapeB (l.take j)).length ≤ k ∧ (j < l.length → k < (tapeB (l.take (j + 1))).length)
  | [], k, _ => ⟨0, [], Nat.le_refl _, by simp [tapeB], rec_nil, by simp [tapeB], fun h => absurd h (Nat.lt_irrefl _)⟩
  | r :: l, k, h => by
    have hr := h r (List.mem_cons_self ..)
    by_cases hk : k < (frameB r).length
    · refine ⟨0, (frameB r).take k, Nat.zero_le _, ?_, torn_tail hr hk, by simp [tapeB], fun _ => ?_⟩
      · rw [tape_cons, List.take_append_of_le_length (by omega)]; simp [tapeB]
      · rw [List.take_succ_cons, List.take_zero, tape_cons]; simp [tapeB]; omega
    · obtain ⟨j, tail, h1, h2, h3, h4, h5⟩ := tape_take l (k - (frameB r).length) fun x hx => h x (List.mem_cons_of_mem _ hx)
      refine ⟨j + 1, tail, by simpa using h1, ?_, h3, ?_, fun hj => ?_⟩
      · rw [tape_cons, List.take_succ_cons, tape_cons, List.append_assoc, ← h2, List.take_append, List.take_of_length_le (by omega)]
      · rw [List.take_succ_cons, tape_cons, List.length_append]; omega
      · have := h5 (by simpa using hj)
        rw [List.take_succ_cons, tape_cons, List.length_append]; omega
theorem take_len_le (l : List Rcd) : l.length ≤ (tapeB l).length := by
  induction l with
  | nil => simp
  | cons r l ih => rw [tape_cons, List.length_append, frame_len, List.length_cons]; omega
/-- Of a tape's beginning its whole records are recovered. -/
theorem recB_take {l : List Rcd} (h : ∀ r ∈ l, checkRc r = 0) (k : Nat) : ∃ j, j ≤ l.length ∧ recB ((tapeB l).take k) = (l.take j, (tapeB (l.take j)).length) ∧ (tapeB (l.take j)).length ≤ k ∧ (j < l.length → k < (tapeB (l.take (j + 1))).length) ∧ (tapeB l).take (tapeB (l.take j)).length = tapeB (l.take j) := by
  obtain ⟨j, tail, h1, h2, h3, h4, h5⟩ := tape_take l k h
  refine ⟨j, h1, ?_, h4, h5, ?_⟩
  · unfold recB
    rw [h2]
    refine rec_app (l.take j) tail _ (fun r hr => h r (List.mem_of_mem_take hr)) ?_ h3
    have := take_len_le (l.take j)
    rw [List.length_append]; omega
  · have e : tapeB l = tapeB (l.take j) ++ tapeB (l.drop j) := by rw [← tape_app, List.take_append_drop]
    rw [e, List.take_left' rfl]
theorem recB_all {l : List Rcd} (h : ∀ r ∈ l, checkRc r = 0) : recB (tapeB l) = (l, (tapeB l).length) := by
  unfold recB
  have := rec_app l [] (tapeB l).length h (take_len_le l) rec_nil
  rwa [List.append_nil] at this
/-- More bytes, more records. -/
theorem recB_mono {l : List Rcd} {k n : Nat} {j : Nat} (hj : j ≤ l.length) (hk : (tapeB (l.take j)).length ≤ k) {i : Nat} (hi : i ≤ l.length) (h5 : i < l.length → k < (tapeB (l.take (i + 1))).length) : j ≤ i := by
  apply Classical.not_not.1
  intro hlt
  have hlt : i < j := by omega
  have h := h5 (by omega)
  have hp : (tapeB (l.take (i + 1))).length ≤ (tapeB (l.take j)).length := by
    have e : l.take j = l.take (i + 1) ++ (l.take j).drop (i + 1) := by
      conv => lhs; rw [← List.take_append_drop (i + 1) (l.take j)]
      rw [List.take_take, Nat.min_eq_left (by omega)]
    rw [e, tape_app, List.length_append]; omega
  omega
theorem tapeB_len {l : List Rcd} (h : ∀ r ∈ l, checkRc r = 0) : (tapeB l).length ≤ l.length * 13603 := by
  induction l with
  | nil => simp [tapeB]
  | cons r l ih =>
    have := ih fun x hx => h x (List.mem_cons_of_mem _ hx)
    have h1 := (enc_len (h r (List.mem_cons_self ..))).2
    rw [tape_cons, List.length_append, frame_len, List.length_cons, Nat.add_mul]; omega
end Go.Proofs.Ytpdcfljbabpakaa

/- Disks: what records make of them: the model. -/
set_option linter.unusedVariables false
set_option linter.unusedSimpArgs false
set_option maxRecDepth 100000
set_option maxHeartbeats 8000000
namespace Go.Proofs.Ytpdcfljbabpakaa
open Go Go.RowKit Go.Proofs.AE
structure Lg where
  base : Int
  bt : Int
  items : List Item
def Lg.c (g : Lg) : List C := logC g.base g.bt g.items
def Lg.check (g : Lg) : Int := checkLog g.base g.bt g.items
def zeroLg : Lg := ⟨0, 0, []⟩
structure Dsk where
  term : Int
  fr : Int
  sidx : Int
  sterm : Int
  mach : Mach
  log : Lg
def Dsk.c (d : Dsk) : List C := [iC d.term, iC d.fr, iC d.sidx, iC d.sterm] ++ d.mach.c ++ d.log.c
def zeroD : Dsk := ⟨0, 0, 0, 0, zeroM, zeroLg⟩
def newD : Dsk := ⟨0, -1, 0, 0, newM, zeroLg⟩
/-- An item lined up at a place. -/
def lineD (g : Lg) (place : Int) (x : Item) : Lg × Int :=
  if place ≤ g.base then (g, 0)
  else if g.base + g.items.length + 1 < place then (g, 10)
  else if checkLog g.base g.bt (g.items.take (place - g.base - 1).toNat ++ [x]) ≠ 0 then (g, 10)
  else (⟨g.base, g.bt, g.items.take (place - g.base - 1).toNat ++ [x]⟩, 0)
/-- What stays of a log behind a snap. -/
def restD (g : Lg) (i t : Int) : Lg :=
  if termErr g.base g.items.length i = 0 ∧ termAt g.base g.bt g.items i = t then ⟨i, t, g.items.drop (i - g.base).toNat⟩ else ⟨i, t, []⟩
def foldStep (d : Dsk) (r : Rcd) : Dsk × Int :=
  if checkRc r ≠ 0 then (zeroD, checkRc r)
  else if r.kind = 1 then ({ d with term := r.term, fr := r.fr }, 0)
  else if r.kind = 2 then (if (lineD d.log r.index r.item).2 ≠ 0 then (zeroD, (lineD d.log r.index r.item).2) else ({ d with log := (lineD d.log r.index r.item).1 }, 0))
  else if d.sidx < r.sidx then ({ d with sidx := r.sidx, sterm := r.sterm, mach := r.mach, log := restD d.log r.sidx r.sterm }, 0)
  else (d, 0)
def foldGo (d : Dsk) : List Rcd → Dsk × Int
  | [] => (d, 0)
  | r :: l => if (foldStep d r).2 ≠ 0 then (foldStep d r) else foldGo (foldStep d r).1 l
def foldD (l : List Rcd) : Dsk × Int := foldGo newD l
end Go.Proofs.Ytpdcfljbabpakaa

/- Disks: plain laws. -/
set_option linter.unusedVariables false
set_option linter.unusedSimpArgs false
set_option maxRecDepth 100000
set_option maxHeartbeats 8000000
namespace Go.Proofs.Ytpdcfljbabpakaa
open Go Go.RowKit Go.Proofs.AE
theorem foldGo_app : ∀ (a b : List Rcd) (d : Dsk), (foldGo d a).2 = 0 → foldGo d (a ++ b) = foldGo (foldGo d a).1 b
  | [], b, d, _ => rfl
  | r :: a, b, d, h => by
    have e : ∀ l, foldGo d (r :: l) = if (foldStep d r).2 ≠ 0 then foldStep d r else foldGo (foldStep d r).1 l := fun l => rfl
    rw [e] at h
    rw [List.cons_append, e, e]
    by_cases hs : (foldStep d r).2 ≠ 0
    · rw [if_pos hs] at h; exact absurd h hs
    · rw [if_neg hs] at h
      rw [if_neg hs, if_neg hs]; exact foldGo_app a b (foldStep d r).1 h
theorem foldGo_one (d : Dsk) (r : Rcd) : foldGo d [r] = foldStep d r := by
  unfold foldGo
  split
  · rfl
  · rename_i h
    have : (foldStep d r).2 = 0 := by simpa using h
    simp only [foldGo]
    rw [← this]
/-! ### logs -/
def lastT (t : Int) (a : List Item) : Int := match a.getLast? with | some y => y.term | none => t
def lastM (m : Int) (a : List Item) : Int := match a.getLast? with | some y => y.time | none => m
theorem lastT_cons (t : Int) (x : Item) (a : List Item) : lastT t (x :: a) = lastT x.term a := by
  unfold lastT; cases a with
  | nil => rfl
  | cons y a => rw [List.getLast?_cons_cons]; simp [List.getLast?_cons]
theorem lastM_cons (t : Int) (x : Item) (a : List Item) : lastM t (x :: a) = lastM x.time a := by
  unfold lastM; cases a with
  | nil => rfl
  | cons y a => rw [List.getLast?_cons_cons]; simp [List.getLast?_cons]
theorem chk_app : ∀ (a b : List Item) (t m : Int), chk (a ++ b) t m = (chk a t m && chk b (lastT t a) (lastM m a))
  | [], b, t, m => rfl
  | x :: a, b, t, m => by
    have ih := chk_app a b x.term x.time
    simp only [List.cons_append, chk, ih, lastT_cons, lastM_cons, Bool.and_assoc]
theorem chk_take {x : List Item} {t m : Int} (h : chk x t m = true) (k : Nat) : chk (x.take k) t m = true := by
  rw [← List.take_append_drop k x, chk_app] at h
  simp only [Bool.and_eq_true] at h
  exact h.1
theorem chk_all : ∀ {x : List Item} {t m : Int}, chk x t m = true → ∀ y ∈ x, y.check = 0 ∧ t ≤ y.term ∧ m ≤ y.time
  | [], _, _, _, y, hy => by cases hy
  | x :: l, t, m, h, y, hy => by
    simp only [chk, Bool.and_eq_true, beq_iff_eq, decide_eq_true_eq] at h
    rcases List.mem_cons.1 hy with rfl | hy
    · exact ⟨h.1, h.2.1, h.2.2.1⟩
    · obtain ⟨a, b, c⟩ := chk_all h.2.2.2 y hy
      exact ⟨a, by omega, by omega⟩
theorem log0_iff {x : List Item} : checkLog 0 0 x = 0 ↔ x.length ≤ 200 ∧ chk x 0 0 = true := by
  unfold checkLog headOk
  constructor
  · intro h
    split at h
    · rename_i hh
      split at h
      · rename_i hc
        simp at hh
        exact ⟨by omega, hc⟩
      · cases h
    · cases h
  · rintro ⟨h1, h2⟩
    rw [if_pos (by simp; omega), if_pos h2]
theorem log0_take {x : List Item} (h : checkLog 0 0 x = 0) (k : Nat) : checkLog 0 0 (x.take k) = 0 := by
  obtain ⟨h1, h2⟩ := log0_iff.1 h
  exact log0_iff.2 ⟨by rw [List.length_take]; omega, chk_take h2 k⟩
/-- A log's beginning, and its last item behind that. -/
theorem log0_cut {x : List Item} (h : checkLog 0 0 x = 0) {k : Nat} (hk : k < x.length) {y : Item} (hy : x[x.length - 1]? = some y) : checkLog 0 0 (x.take k ++ [y]) = 0 := by
  obtain ⟨h1, h2⟩ := log0_iff.1 h
  refine log0_iff.2 ⟨by simp; omega, ?_⟩
  have hs := h2
  rw [← List.take_append_drop k x, chk_app] at hs
  simp only [Bool.and_eq_true] at hs
  rw [chk_app]
  simp only [Bool.and_eq_true]
  refine ⟨hs.1, ?_⟩
  have hm : y ∈ x.drop k := by
    refine List.mem_of_getElem? (i := x.length - 1 - k) ?_
    rw [List.getElem?_drop, show k + (x.length - 1 - k) = x.length - 1 by omega]; exact hy
  obtain ⟨a, b, c⟩ := chk_all hs.2 y hm
  simp only [chk, Bool.and_eq_true, beq_iff_eq, decide_eq_true_eq]
  exact ⟨a, b, c, trivial⟩
/-! ### lines -/
def lineRc (i : Nat) (x : Item) : Rcd := ⟨2, 0, 0, (i : Int) + 1, x, 0, 0, zeroM⟩
def linesR (x : List Item) : List Rcd := x.mapIdx lineRc
theorem linesR_snoc (x : List Item) (y : Item) : linesR (x ++ [y]) = linesR x ++ [lineRc x.length y] := by unfold linesR; rw [List.mapIdx_append]; simp
theorem lineRc_ok {i : Nat} {x : Item} (hi : i < 1000000) (hx : x.check = 0) : checkRc (lineRc i x) = 0 := by
  have hn : okNumber ((i : Int) + 1) = true := by unfold okNumber; simp; omega
  have hs : noSnap (lineRc i x) = true := rfl
  unfold checkRc
  rw [hs]
  simp [lineRc, hn, hx]
theorem line_end {g : List Item} {x : Item} (h : checkLog 0 0 (g ++ [x]) = 0) {d : Dsk} (hd : d.log = ⟨0, 0, g⟩) : foldStep d (lineRc g.length x) = ({ d with log := ⟨0, 0, g ++ [x]⟩ }, 0) := by
  obtain ⟨h1, h2⟩ := log0_iff.1 h
  have hx := (chk_all h2 x (by simp)).1
  have hr := lineRc_ok (i := g.length) (by simp at h1; omega) hx
  have hl : lineD d.log (lineRc g.length x).index (lineRc g.length x).item = (⟨0, 0, g ++ [x]⟩, 0) := by
    rw [hd]
    unfold lineD lineRc
    simp only
    rw [if_neg (by omega), if_neg (by omega)]
    have e : ((g.length : Int) + 1 - 0 - 1).toNat = g.length := by omega
    rw [e, List.take_length, if_neg (by rw [h]; simp)]
  unfold foldStep
  rw [if_neg (by rw [hr]; simp), if_neg (by show ¬ (2 : Int) = 1; omega), if_pos (show (lineRc _ _).kind = 2 from rfl), hl, if_neg (by simp)]
theorem fold_lines (x : List Item) (h : checkLog 0 0 x = 0) : foldGo newD (linesR x) = ({ newD with log := ⟨0, 0, x⟩ }, 0) := by
  suffices ∀ k, k ≤ x.length → foldGo newD (linesR (x.take k)) = ({ newD with log := ⟨0, 0, x.take k⟩ }, 0) by
    have := this x.length (Nat.le_refl _)
    rwa [List.take_length] at this
  intro k
  induction k with
  | zero => intro _; rfl
  | succ k ih =>
    intro hk
    have ih := ih (by omega)
    have hlt : k < x.length := by omega
    have hlen : (x.take k).length = k := by rw [List.length_take]; omega
    have h2 := log0_take h (k + 1)
    rw [List.take_succ_eq_append_getElem hlt] at h2 ⊢
    rw [linesR_snoc, foldGo_app _ _ _ (by rw [ih]), ih, foldGo_one, line_end h2 rfl]
/-- A line that stands where it is to, and nothing behind it. -/
theorem fold_cut {x : List Item} (h : checkLog 0 0 x = 0) {k : Nat} (hk : k < x.length) {y : Item} (hy : x[x.length - 1]? = some y) :
    foldGo newD (linesR x ++ [lineRc k y]) = ({ newD with log := ⟨0, 0, x.take k ++ [y]⟩ }, 0) := by
  have hc := log0_cut h hk hy
  obtain ⟨h1, h2⟩ := log0_iff.1 hc
  have hx := (chk_all h2 y (by simp)).1
  have hr := lineRc_ok (i := k) (by have := (log0_iff.1 h).1; omega) hx
  rw [foldGo_app _ _ _ (by rw [fold_lines x h]), fold_lines x h, foldGo_one]
  have hl : lineD ⟨0, 0, x⟩ (lineRc k y).index (lineRc k y).item = (⟨0, 0, x.take k ++ [y]⟩, 0) := by
    unfold lineD lineRc
    simp only
    rw [if_neg (by omega), if_neg (by omega)]
    have e : ((k : Int) + 1 - 0 - 1).toNat = k := by omega
    rw [e, if_neg (by rw [hc]; simp)]
  unfold foldStep
  rw [if_neg (by rw [hr]; simp), if_neg (by show ¬ (2 : Int) = 1; omega), if_pos (show (lineRc _ _).kind = 2 from rfl)]
  simp only
  rw [hl, if_neg (by simp)]
/-- A line too far behind. -/
theorem fold_far {x : List Item} (h : checkLog 0 0 x = 0) {y : Item} (hy : y.check = 0) : foldGo newD (linesR x ++ [lineRc (x.length + 1) y]) = (zeroD, 10) := by
  have hr := lineRc_ok (i := x.length + 1) (by have := (log0_iff.1 h).1; omega) hy
  rw [foldGo_app _ _ _ (by rw [fold_lines x h]), fold_lines x h, foldGo_one]
  have hl : lineD ⟨0, 0, x⟩ (lineRc (x.length + 1) y).index (lineRc (x.length + 1) y).item = (⟨0, 0, x⟩, 10) := by
    unfold lineD lineRc
    simp only
    rw [if_neg (by omega), if_pos (by push_cast; omega)]
  unfold foldStep
  rw [if_neg (by rw [hr]; simp), if_neg (by show ¬ (2 : Int) = 1; omega), if_pos (show (lineRc _ _).kind = 2 from rfl)]
  simp only
  rw [hl, if_pos (by simp)]
/-! ### marks -/
def markRc (t f : Int) : Rcd := ⟨1, t, f, 0, zeroItem, 0, 0, zeroM⟩
theorem markRc_ok {t f : Int} (ht : 1 ≤ t ∧ t ≤ 1048576) (hf : -1 ≤ f ∧ f < 3) : checkRc (markRc t f) = 0 := by
  have hn : okNumber t = true := by unfold okNumber; simp; omega
  have hs : noSnap (markRc t f) = true := rfl
  unfold checkRc
  rw [hs]
  simp [markRc, hn]
  omega
theorem mark_step {t f : Int} (ht : 1 ≤ t ∧ t ≤ 1048576) (hf : -1 ≤ f ∧ f < 3) (d : Dsk) : foldStep d (markRc t f) = ({ d with term := t, fr := f }, 0) := by
  unfold foldStep
  rw [if_neg (by rw [markRc_ok ht hf]; simp), if_pos (show (markRc _ _).kind = 1 from rfl)]
  rfl
/-! ### snaps -/
def loadRc (i t : Int) (m : Mach) : Rcd := ⟨3, 0, 0, 0, zeroItem, i, t, m⟩
theorem loadRc_ok {i t : Int} {m : Mach} (hi : 1 ≤ i ∧ i ≤ 1048576) (ht : 1 ≤ t ∧ t ≤ 1048576) (hm : OkM m) : checkRc (loadRc i t m) = 0 := by
  have h1 : okNumber i = true := by unfold okNumber; simp; omega
  have h2 : okNumber t = true := by unfold okNumber; simp; omega
  unfold checkRc checkSnap
  simp [loadRc, h1, h2, checkM_iff.2 hm]
theorem load_step {i t : Int} {m : Mach} (hi : 1 ≤ i ∧ i ≤ 1048576) (ht : 1 ≤ t ∧ t ≤ 1048576) (hm : OkM m) (d : Dsk) :
    foldStep d (loadRc i t m) = (if d.sidx < i then { d with sidx := i, sterm := t, mach := m, log := restD d.log i t } else d, 0) := by
  unfold foldStep
  rw [if_neg (by rw [loadRc_ok hi ht hm]; simp), if_neg (by show ¬ (3 : Int) = 1; omega), if_neg (by show ¬ (3 : Int) = 2; omega)]
  by_cases h : d.sidx < i
  · rw [if_pos (show d.sidx < (loadRc i t m).sidx from h), if_pos h]; rfl
  · rw [if_neg (show ¬ d.sidx < (loadRc i t m).sidx from h), if_neg h]
/-- What holds of a disk on the way. -/
structure OkD (d : Dsk) : Prop where
  log : d.log.check = 0
  mach : OkM d.mach
theorem newM_ok : OkM newM := by
  refine checkM_iff.1 ?_
  decide
theorem newD_ok : OkD newD := ⟨by decide, newM_ok⟩
theorem chk_drop {x : List Item} {t m : Int} (h : chk x t m = true) (k : Nat) {t' : Int} (ht : ∀ y, (x.take k).getLast? = some y → t' ≤ y.term) (hk : 0 < k) (hl : k ≤ x.length) : chk (x.drop k) t' 0 = true := by
  rw [← List.take_append_drop k x, chk_app] at h
  simp only [Bool.and_eq_true] at h
  obtain ⟨y, hy⟩ : ∃ y, (x.take k).getLast? = some y := by
    cases hq : (x.take k).getLast? with
    | some y => exact ⟨y, rfl⟩
    | none =>
      rw [List.getLast?_eq_none_iff] at hq
      have := congrArg List.length hq
      rw [List.length_take, List.length_nil] at this
      omega
  have h2 := h.2
  have e1 : lastT t (x.take k) = y.term := by unfold lastT; rw [hy]
  have e2 : lastM m (x.take k) = y.time := by unfold lastM; rw [hy]
  rw [e1, e2] at h2
  have ht := ht y hy
  cases hd : x.drop k with
  | nil => rfl
  | cons z l =>
    rw [hd] at h2
    simp only [chk, Bool.and_eq_true, beq_iff_eq, decide_eq_true_eq] at h2 ⊢
    have hym : y ∈ x := List.mem_of_mem_take (List.mem_of_getLast? hy)
    obtain ⟨a, b, c, e⟩ := h2
    obtain ⟨_, _, _, d2⟩ : 1 ≤ z.term ∧ z.term ≤ 1048576 ∧ 0 ≤ z.time ∧ z.time ≤ 1073741824 := by
      have := item_ok a; exact ⟨this.1, this.2.1, this.2.2.1, this.2.2.2.1⟩
    exact ⟨a, by omega, by omega, e⟩
theorem checkLog_iff {base bt : Int} {x : List Item} : checkLog base bt x = 0 ↔ (0 ≤ base ∧ 0 ≤ bt ∧ bt ≤ 1048576 ∧ (base = 0 ↔ bt = 0) ∧ x.length ≤ 200 ∧ base ≤ 1048576 - x.length) ∧ chk x bt 0 = true := by
  unfold checkLog headOk
  constructor
  · intro h
    split at h
    · rename_i hh
      split at h
      · rename_i hc
        simp at hh
        refine ⟨⟨by omega, by omega, by omega, ?_, by omega, by omega⟩, hc⟩
        have := hh.2.2.2.1
        constructor <;> intro h <;> simp_all
      · cases h
    · cases h
  · rintro ⟨⟨h1, h2, h3, h4, h5, h6⟩, h7⟩
    rw [if_pos ?_, if_pos h7]
    simp
    refine ⟨by omega, by omega, by omega, ?_, by omega, by omega⟩
    rw [Bool.eq_iff_iff]; simpa using h4
theorem restD_ok {g : Lg} (h : g.check = 0) {i t : Int} (hi : 1 ≤ i ∧ i ≤ 1048576) (ht : 1 ≤ t ∧ t ≤ 1048576) : (restD g i t).check = 0 := by
  unfold Lg.check at h ⊢
  obtain ⟨⟨h1, h2, h3, h4, h5, h6⟩, h7⟩ := checkLog_iff.1 h
  unfold restD
  split
  · rename_i hc
    obtain ⟨c1, c2⟩ := hc
    have hr := termErr_range c1
    refine checkLog_iff.2 ⟨⟨by show 0 ≤ i; omega, by show 0 ≤ t; omega, by show t ≤ _; omega, by show i = 0 ↔ t = 0; omega, by simp; omega, by show i ≤ _; simp; omega⟩, ?_⟩
    show chk (g.items.drop (i - g.base).toNat) t 0 = true
    by_cases h0 : i = g.base
    · rw [h0] at c2 ⊢
      have : t = g.bt := by rw [← c2]; unfold termAt; rw [if_neg (by omega), if_pos rfl]
      rw [this]
      simpa using h7
    · refine chk_drop h7 _ ?_ (by omega) (by omega)
      intro y hy
      unfold termAt at c2
      rw [if_neg (by omega), if_neg h0, if_neg (by omega)] at c2
      have e : (i - g.base - 1).toNat = (i - g.base).toNat - 1 := by omega
      rw [List.getLast?_eq_getElem?, List.length_take, Nat.min_eq_left (by omega), List.getElem?_take, if_pos (by omega), ← e] at hy
      rw [hy] at c2
      simp only at c2
      omega
  · refine checkLog_iff.2 ⟨⟨by show 0 ≤ i; omega, by show 0 ≤ t; omega, by show t ≤ _; omega, by show i = 0 ↔ t = 0; omega, by simp, by show i ≤ _; simp; omega⟩, rfl⟩
theorem lineD_ok {g : Lg} (h : g.check = 0) (p : Int) (x : Item) : (lineD g p x).1.check = 0 := by
  unfold lineD
  split
  · exact h
  · split
    · exact h
    · split
      · exact h
      · rename_i h3
        exact Classical.not_not.1 h3
theorem step_ok {d : Dsk} (h : OkD d) (r : Rcd) (he : (foldStep d r).2 = 0) : OkD (foldStep d r).1 := by
  unfold foldStep at he ⊢
  by_cases h1 : checkRc r ≠ 0
  · rw [if_pos h1] at he; exact absurd he h1
  · rw [if_neg h1] at he ⊢
    have hr := Classical.not_not.1 h1
    by_cases h2 : r.kind = 1
    · rw [if_pos h2]; exact ⟨h.log, h.mach⟩
    · rw [if_neg h2] at he ⊢
      by_cases h3 : r.kind = 2
      · rw [if_pos h3] at he ⊢
        by_cases h4 : (lineD d.log r.index r.item).2 ≠ 0
        · rw [if_pos h4] at he; exact absurd he h4
        · rw [if_neg h4]; exact ⟨lineD_ok h.log _ _, h.mach⟩
      · rw [if_neg h3]
        split
        · rcases rc_cases hr with ⟨t, f, rfl, _⟩ | ⟨i, x, rfl, _⟩ | ⟨i, t, m, rfl, a, b, c⟩
          · exact absurd rfl h2
          · exact absurd rfl h3
          · unfold okNumber at a b
            simp at a b
            exact ⟨restD_ok h.log (by omega) (by omega), c⟩
        · exact h
end Go.Proofs.Ytpdcfljbabpakaa

/- Records: what their checks answer. -/
set_option linter.unusedVariables false
set_option linter.unusedSimpArgs false
set_option maxRecDepth 100000
set_option maxHeartbeats 8000000
namespace Go.Proofs.Ytpdcfljbabpakaa
open Go Go.RowKit Go.Proofs.AE
variable {G : Nat → AV}
def Rcd.c (r : Rcd) : List C := [iC r.kind, iC r.term, iC r.fr, iC r.index, iC r.item.term, iC r.item.time, bC r.item.nop, iC r.item.client, iC r.item.seq, iC r.item.k, sC r.item.key, sC r.item.field, sC r.item.text, iC r.item.n, iC r.sidx, iC r.sterm, iC r.mach.sto.now, .v (.sl (eR r.mach.sto.ents)), iC r.mach.next, .v (.sl (clR r.mach.clis))]
def Rcd.row (r : Rcd) : List V := [iL r.kind, iL r.term, iL r.fr, iL r.index, iL r.item.term, iL r.item.time, .lit (.bool r.item.nop), iL r.item.client, iL r.item.seq, iL r.item.k, sL r.item.key, sL r.item.field, sL r.item.text, iL r.item.n, iL r.sidx, iL r.sterm, iL r.mach.sto.now, .sl (eR r.mach.sto.ents), iL r.mach.next, .sl (clR r.mach.clis)]
theorem tnumber_c (n : Int) : PCall Try.prog G 44 [iV n] (bV (okNumber n)) := by
  refine pcallc mixed Try.func44 ac_tape_number ?_
  unfold okNumber
  repeat' (first | (with_reducible first | refine Cn (fun h => ?_) fun h => ?_ | refine And.intro ?_ ?_ | refine wR ?_ | exact wr _ _ | refine wa ?_ | apply awp_join) | (with_reducible refine CallZ.z ?_) | simp -dsimp [go_sem])
  all_goals first | (simp_all; done) | (intro hh; simp_all)
def noSnapS (i t : Int) (m : Mach) : Bool := i == 0 && (t == 0 && (m.next == 0 && ((m.clis.length : Int) == 0 && (m.sto.now == 0 && (m.sto.ents.length : Int) == 0))))
theorem noSnap_c (i t : Int) (m : Mach) : PCall Try.prog G 43 [.agg ([iC i, iC t] ++ m.c)] (bV (noSnapS i t m)) := by
  obtain ⟨⟨now, es⟩, next, cs⟩ := m
  have h1 : (eR es).length = es.length := by simp
  have h2 : (clR cs).length = cs.length := by simp
  unfold noSnapS
  simp only [Mach.c, List.cons_append, List.nil_append]
  refine pcallc mixed Try.func43 ac_tape_noSnap ?_
  repeat' (first | (with_reducible first | refine Cn (fun h => ?_) fun h => ?_ | refine And.intro ?_ ?_ | refine wR ?_ | exact wr _ _ | refine wa ?_ | apply awp_join) | (with_reducible refine CallZ.z ?_) | simp -dsimp [go_sem, h1, h2])
  all_goals first | (simp_all; done) | trace_state
theorem len_empty {α : Type} (l : List α) : ((l.length : Int) == 0) = l.isEmpty := by
  cases l with
  | nil => rfl
  | cons a l => rw [List.isEmpty_cons, beq_eq_false_iff_ne, List.length_cons]; omega
theorem noSnapS_eq (r : Rcd) : noSnapS r.sidx r.sterm r.mach = noSnap r := by
  unfold noSnapS noSnap
  have h1 : ((r.mach.clis.length : Int) == 0) = r.mach.clis.isEmpty := len_empty _
  have h2 : ((r.mach.sto.ents.length : Int) == 0) = r.mach.sto.ents.isEmpty := len_empty _
  rw [h1, h2]
  simp only [Bool.and_assoc]
theorem checkSnap_c (i t : Int) (m : Mach) (h1 : m.sto.Small) (h2 : m.clis.length ≤ 1000000) : PCall Try.prog G 46 [.agg ([iC i, iC t] ++ m.c)] (iV (checkSnap i t m)) := by
  have hck := checkM_c (G := G) m h1 h2
  have n1 := tnumber_c (G := G) i
  have n2 := tnumber_c (G := G) t
  unfold checkSnap
  generalize checkM m = v at *
  generalize okNumber i = a at *
  generalize okNumber t = b at *
  obtain ⟨⟨now, es⟩, next, cs⟩ := m
  simp only [Mach.c, List.cons_append, List.nil_append] at *
  cases a <;> cases b
  all_goals
    refine pcallc mixed Try.func46 ac_tape_CheckSnap ?_
    repeat' (first | (with_reducible first | refine Cn (fun h => ?_) fun h => ?_ | refine And.intro ?_ ?_ | refine wR ?_ | exact wr _ _ | refine wa ?_ | apply awp_join | refine q n1 ?_ | refine qd n1 ?_ | refine qz n1 ?_ | refine q n2 ?_ | refine qd n2 ?_ | refine qz n2 ?_ | refine q hck ?_ | refine qd hck ?_ | refine qz hck ?_) | (with_reducible refine CallZ.z ?_) | simp -dsimp [go_sem])
  all_goals first | (simp_all; done) | trace_state
def zItem (x : Item) : Bool := x.term == 0 && (x.time == 0 && (!x.nop && (x.client == 0 && (x.seq == 0 && (x.k == 0 && (decide (x.key = ⟨#[]⟩) && (decide (x.field = ⟨#[]⟩) && (decide (x.text = ⟨#[]⟩) && x.n == 0))))))))
theorem zItem_iff {x : Item} : zItem x = true ↔ x = zeroItem := by
  obtain ⟨a, b, c, d, e, f, g, h, i, j⟩ := x
  unfold zItem zeroItem
  cases c <;> simp
theorem checkRc_eq (r : Rcd) : checkRc r = if r.kind < 1 ∨ 3 < r.kind then 3
  else if (r.kind ≠ 1 ∧ (r.term ≠ 0 ∨ r.fr ≠ 0)) ∨ (r.kind ≠ 2 ∧ (r.index ≠ 0 ∨ zItem r.item = false)) ∨ (r.kind ≠ 3 ∧ noSnapS r.sidx r.sterm r.mach = false) then 8
  else if r.kind = 1 then (if okNumber r.term = false ∨ r.fr < -1 ∨ 3 ≤ r.fr then 2 else 0)
  else if r.kind = 2 then (if okNumber r.index = false then 2 else r.item.check)
  else checkSnap r.sidx r.sterm r.mach := by
  unfold checkRc
  rw [noSnapS_eq]
  have e : (zItem r.item = false) = (r.item ≠ zeroItem) := by
    rw [← Bool.not_eq_true, zItem_iff]
  simp only [e]
theorem checkRc_c (r : Rcd) (h1 : r.mach.sto.Small) (h2 : r.mach.clis.length ≤ 1000000) : PCall Try.prog G 31 [.agg r.c] (iV (checkRc r)) := by
  rw [checkRc_eq]
  obtain ⟨kind, term, fr, index, ⟨xt, xm, xn, xc, xs, xk, xa, xb, xd, xx⟩, sidx, sterm, ⟨⟨now, es⟩, next, cs⟩⟩ := r
  have hcs := checkSnap_c (G := G) sidx sterm ⟨⟨now, es⟩, next, cs⟩ h1 h2
  have hns := noSnap_c (G := G) sidx sterm ⟨⟨now, es⟩, next, cs⟩
  have n1 := tnumber_c (G := G) term
  have n2 := tnumber_c (G := G) index
  have hci := checkItem_c (G := G) xt xm xn xc xs xk xa xb xd xx
  obtain ⟨Z, hZ⟩ : ∃ Z, zItem ⟨xt, xm, xn, xc, xs, xk, xa, xb, xd, xx⟩ = Z := ⟨_, rfl⟩
  simp only [Item.check, Rcd.c, Mach.c, List.cons_append, List.nil_append] at *
  rw [hZ]
  unfold zItem at hZ
  simp only at hZ
  generalize checkSnap sidx sterm ⟨⟨now, es⟩, next, cs⟩ = V at *
  generalize noSnapS sidx sterm ⟨⟨now, es⟩, next, cs⟩ = S at *
  generalize okNumber term = A at *
  generalize okNumber index = B at *
  generalize checkItem xt xm xn xc xs xk xa xb xd xx = I at *
  by_cases k0 : kind < 1 ∨ 3 < kind
  · rw [if_pos k0]
    by_cases k1 : kind < 1
    · have q1 : decide (kind < 1) = true := decide_eq_true k1
      refine pcallc mixed Try.func31 ac_tape_Check ?_
      repeat' (first | (with_reducible first | refine Cn (fun h => ?_) fun h => ?_ | refine And.intro ?_ ?_ | refine wR ?_ | exact wr _ _ | refine wa ?_ | apply awp_join) | (with_reducible refine CallZ.z ?_) | simp -dsimp [go_sem, q1])
      all_goals first | done | (simp_all; done) | (simp_all; omega) | ((repeat' split) <;> simp_all <;> omega) | trace_state
    · have q1 : decide (kind < 1) = false := decide_eq_false k1
      have q2 : decide (3 < kind) = true := decide_eq_true (by omega)
      refine pcallc mixed Try.func31 ac_tape_Check ?_
      repeat' (first | (with_reducible first | refine Cn (fun h => ?_) fun h => ?_ | refine And.intro ?_ ?_ | refine wR ?_ | exact wr _ _ | refine wa ?_ | apply awp_join) | (with_reducible refine CallZ.z ?_) | simp -dsimp [go_sem, q1, q2])
      all_goals first | done | (simp_all; done) | (simp_all; omega) | ((repeat' split) <;> simp_all <;> omega) | trace_state
  · rw [if_neg k0]
    have q1 : decide (kind < 1) = false := decide_eq_false (by omega)
    have q2 : decide (3 < kind) = false := decide_eq_false (by omega)
    have hk : kind = 1 ∨ kind = 2 ∨ kind = 3 := by omega
    clear k0
    rcases hk with rfl | rfl | rfl
    · refine pcallc mixed Try.func31 ac_tape_Check ?_
      repeat' (first | (with_reducible first | refine Cn (fun h => ?_) fun h => ?_ | refine And.intro ?_ ?_ | refine wR ?_ | exact wr _ _ | refine wa ?_ | apply awp_join | refine q hns ?_ | refine qd hns ?_ | refine qz hns ?_ | refine q n1 ?_ | refine qd n1 ?_ | refine qz n1 ?_) | (with_reducible refine CallZ.z ?_) | simp -dsimp [go_sem, hZ])
      all_goals first | done | (simp_all; done) | (simp_all; omega) | ((repeat' split) <;> simp_all <;> omega) | trace_state
    · refine pcallc mixed Try.func31 ac_tape_Check ?_
      repeat' (first | (with_reducible first | refine Cn (fun h => ?_) fun h => ?_ | refine And.intro ?_ ?_ | refine wR ?_ | exact wr _ _ | refine wa ?_ | apply awp_join | refine q hns ?_ | refine qd hns ?_ | refine qz hns ?_ | refine q n2 ?_ | refine qd n2 ?_ | refine qz n2 ?_ | refine q hci ?_ | refine qd hci ?_ | refine qz hci ?_) | (with_reducible refine CallZ.z ?_) | simp -dsimp [go_sem, hZ])
      all_goals first | done | (simp_all; done) | (simp_all; omega) | ((repeat' split) <;> simp_all <;> omega) | trace_state
    · refine pcallc mixed Try.func31 ac_tape_Check ?_
      repeat' (first | (with_reducible first | refine Cn (fun h => ?_) fun h => ?_ | refine And.intro ?_ ?_ | refine wR ?_ | exact wr _ _ | refine wa ?_ | apply awp_join | refine q hcs ?_ | refine qd hcs ?_ | refine qz hcs ?_) | (with_reducible refine CallZ.z ?_) | simp -dsimp [go_sem, hZ])
      all_goals first | done | (simp_all; done) | (simp_all; omega) | ((repeat' split) <;> simp_all <;> omega) | trace_state
end Go.Proofs.Ytpdcfljbabpakaa

/- Frames without their stale cells. -/
set_option linter.unusedVariables false
set_option linter.unusedSimpArgs false
set_option maxRecDepth 100000
set_option maxHeartbeats 8000000
namespace Go.Proofs.Ytpdcfljbabpakaa
open Go Go.RowKit Go.Proofs.AE
/-- A frame without its stale cells. -/
def cleanF : List Nat → List (Nat × AV) → List (Nat × AV)
  | _, [] => []
  | seen, (t, v) :: r => bif memB t seen then cleanF seen r else (t, v) :: cleanF (t :: seen) r
theorem getF_cleanF : ∀ (fr : List (Nat × AV)) (seen : List Nat) (t : Nat), t ∉ seen → getF (cleanF seen fr) t = getF fr t
  | [], _, _, _ => rfl
  | (u, v) :: r, seen, t, h => by
    unfold cleanF
    cases hm : memB u seen with
    | true =>
      have hu : u ∈ seen := memB_iff.1 hm
      have hne : u ≠ t := fun e => h (e ▸ hu)
      simp only [cond_true]
      rw [getF_cleanF r seen t h]
      simp only [getF, hne, if_false]
    | false =>
      simp only [cond_false, getF]
      by_cases e : u = t
      · simp [e]
      · simp only [e, if_false]
        exact getF_cleanF r (u :: seen) t (by simp only [List.mem_cons, not_or]; exact ⟨fun h => e h.symm, h⟩)
theorem clean_nil (seen : List Nat) : cleanF seen [] = [] := rfl
def cleanS (b : Bool) (seen : List Nat) (t : Nat) (v : AV) (r : List (Nat × AV)) : List (Nat × AV) := bif b then cleanF seen r else (t, v) :: cleanF (t :: seen) r
theorem clean_cons {seen : List Nat} {t : Nat} {v : AV} {r : List (Nat × AV)} : cleanF seen ((t, v) :: r) = cleanS (memB t seen) seen t v r := rfl
theorem clean_yes {seen : List Nat} {t : Nat} {v : AV} {r : List (Nat × AV)} : cleanS true seen t v r = cleanF seen r := rfl
theorem clean_no {seen : List Nat} {t : Nat} {v : AV} {r : List (Nat × AV)} : cleanS false seen t v r = (t, v) :: cleanF (t :: seen) r := rfl
theorem weak_autoC {k : Nat} {s s' : S} (h : WA k s ⟨cleanF [] s'.fr, s'.gl, s'.hp⟩) : Weak k s s' := by
  refine Weak.trans (weak_auto h) ⟨rfl, fun n w ok μ a hst => ⟨ok, μ, ⟨hst.hr, hst.size, hst.defers, fun t => ?_, hst.gl⟩, (Go.Proofs.AE.Step.refl hst.hr).far⟩⟩
  have := hst.fr t
  rw [getF_cleanF _ _ _ (by simp)] at this
  exact this
end Go.Proofs.Ytpdcfljbabpakaa

/- Parts of code; regions of many orders, one order after the other. -/
set_option linter.unusedVariables false
set_option linter.unusedSimpArgs false
set_option maxRecDepth 100000
set_option maxHeartbeats 8000000
namespace Go.Proofs.Ytpdcfljbabpakaa
open Go Go.RowKit Go.Proofs.AE
/-- A part of code, by its path. -/
def subC : List Nat → ACode → ACode
  | [], c => c
  | i :: r, .seq a b => subC r (if i = 0 then a else b)
  | i :: r, .cond _ t e => subC r (if i = 0 then t else e)
  | _ :: r, .block _ c => subC r c
  | _ :: r, .loop c => subC r c
  | _, c => c
structure PartIs (d : ACode) : Prop where
theorem PartIs.of {f : Func} {c : ACode} {rs : List ResultVar} {d : ACode} (cc : CC f c rs) (p : List Nat) (h : subC p c = d := by (conv => lhs; simp [subC]); all_goals exact rfl) : PartIs d := ⟨⟩
abbrev codeOf {d : ACode} (_ : PartIs d) : ACode := d
/-- One order of a region. -/
def nthAlt : ACode → Nat → List AOp × List (Nat × Nat)
  | .regD l, j => l.getD j ([], [])
  | _, _ => ([], [])
def AltOk (P : Program) (c : ACode) (j : Nat) (s s' : S) : Prop := aopsD P (nthAlt c j).1 [] s (fun h q => stables P (nthAlt c j).1 (s :: h) (nthAlt c j).2 ∧ Weak 0 q s')
theorem alts_of {P : Program} {Q : Exit → S → Prop} {s s' : S} : ∀ (l : List (List AOp × List (Nat × Nat))), (∀ j, j < l.length → AltOk P (.regD l) j s s') → allAlts P s (fun q => Weak 0 q s') l
  | [], _ => trivial
  | (al, ps) :: r, h => ⟨h 0 (by simp), alts_of (Q := Q) r fun j hj => by have := h (j + 1) (by simpa using hj); unfold AltOk nthAlt at this ⊢; simpa using this⟩
def AllOk (P : Program) (c : ACode) (s s' : S) : Nat → Prop
  | 0 => True
  | n + 1 => AltOk P c n s s' ∧ AllOk P c s s' n
theorem AllOk.get {P : Program} {c : ACode} {s s' : S} : ∀ {n : Nat}, AllOk P c s s' n → ∀ j, j < n → AltOk P c j s s'
  | 0, _, j, hj => by omega
  | n + 1, h, j, hj => by
    by_cases e : j = n
    · subst e; exact h.1
    · exact AllOk.get h.2 j (by omega)
theorem reg_of {P : Program} {Q : Exit → S → Prop} {s s' : S} {c : ACode} (l : List (List AOp × List (Nat × Nat))) (n : Nat) (hc : c = .regD l) (hn : l.length = n) (h : AllOk P c s s' n) (hq : Q .normal s') : awp P 0 c Q s := by
  subst hc
  exact awp_join s' (alts_of (Q := Q) l fun j hj => h.get j (by omega)) hq
/-- To look at a state on the way. -/
theorem peek {P : Program} {k : Nat} {c : ACode} {Q : Exit → S → Prop} {s : S} (h : s = s ∧ False) : awp P k c Q s := h.2.elim
end Go.Proofs.Ytpdcfljbabpakaa
