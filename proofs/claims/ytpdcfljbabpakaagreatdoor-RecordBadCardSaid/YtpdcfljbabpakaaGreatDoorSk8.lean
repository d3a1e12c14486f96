/- Texts joined. -/
import Derived.Test.YtpdcfljbabpakaaGreatDoorSk7
import Derived.Deep.Slices
import Derived.ChangeStays
import Derived.MapPlaces
import Derived.ChangeBears
import Derived.Test.YtpdcfljbabpakaaGreatDoorSk5
set_option linter.unusedVariables false
set_option linter.unusedSimpArgs false
namespace Go.Proofs.AE
open Go Go.RowKit
def WT (P : Program) : Nat → TypeId → List V → Prop
  | 0, _, _ => False
  | n + 1, t, vs => match tiOf P t with
    | none => False
    | some i => match i.sh with
      | .bool => ∃ b, vs = [.lit (.bool b)]
      | .int k => ∃ x, vs = [.lit (.int k x)] ∧ (Lit.int k x).wf = true
      | .string => ∃ s : ByteArray, vs = [.lit (.string s)] ∧ s.size ≤ maxLen
      | .struct fs => vs.length = i.size ∧ ∀ f ∈ fs, ∃ j, tiOf P f.1 = some j ∧ WT P n f.1 ((vs.drop f.2).take j.size)
      | .slice e => ∃ rows, vs = [.sl rows] ∧ rows.length ≤ maxLen ∧ ∀ r ∈ rows, WT P n e r
      | _ => False
def deepT (P : Program) (D : Bool) : Nat → TypeId → Bool
  | 0, _ => false
  | n + 1, t => match tiOf P t with
    | none => false
    | some i => match i.sh with
      | .bool | .int _ | .string => true
      | .struct fs => fs.all (fun f => deepT P D n f.1)
      | .slice e => D && (decide (0 < P.cellsOf e) && deepT P D n e)
      | _ => false
section
variable {H : Type} {enc : TypeId × Value → H} {P : Program} {w : World} {ok : Nat → Prop} {base : Nat} {spare : Nat → Bool} {held : Bool} {T : TypeId → Prop}
theorem cellsOf_ti {t : TypeId} {i : TI} (h : TIs P t i) : P.cellsOf t = i.size := by
  obtain ⟨j, h1, h2, _⟩ := h.info
  simp [Program.cellsOf, h1, h2]
theorem und_ti {t : TypeId} {i : TI} (h : TIs P t i) : ∃ d, P.underlying t = some d ∧ shOf P d = some i.sh := h.und
theorem flatten_take_drop {α : Type} : ∀ (L : List (List α)) (j : Nat) (l : List α), L[j]? = some l → (L.flatten.drop ((L.take j).map List.length).sum).take l.length = l
  | [], j, l, h => by simp at h
  | x :: L, 0, l, h => by simp at h; subst h; simp
  | x :: L, j + 1, l, h => by
    simp only [List.getElem?_cons_succ] at h
    have := flatten_take_drop L j l h
    simp only [List.take_succ_cons, List.map_cons, List.sum_cons, List.flatten_cons]
    rw [List.drop_append]
    have h1 : (x.drop (x.length + ((L.take j).map List.length).sum)) = [] := List.drop_eq_nil_of_le (by omega)
    rw [h1, List.nil_append, show x.length + ((L.take j).map List.length).sum - x.length = ((L.take j).map List.length).sum by omega]
    exact this
theorem all2_flatten {α β : Type} {R : α → β → Prop} : ∀ {L : List (List α)} {M : List (List β)}, All2 (All2 R) L M → All2 R L.flatten M.flatten
  | _, _, .nil => .nil
  | _, _, .cons h t => h.append (all2_flatten t)
theorem pieces {α : Type} : ∀ (ns : List Nat) (cs : List α), cs.length = ns.sum → ((List.range ns.length).map fun j => (cs.drop (ns.take j).sum).take (ns.getD j 0)).flatten = cs
  | [], cs, h => by simp at h; simp [h]
  | n :: ns, cs, h => by
    rw [List.length_cons, List.range_succ_eq_map, List.map_cons, List.flatten_cons, List.map_map]
    have ih := pieces ns (cs.drop n) (by simp at h ⊢; omega)
    have he : ((fun j => (cs.drop ((n :: ns).take j).sum).take ((n :: ns).getD j 0)) ∘ Nat.succ) = fun j => ((cs.drop n).drop (ns.take j).sum).take (ns.getD j 0) := by
      funext j; simp [List.drop_drop]
    rw [he, ih]
    simp
theorem read_rows {e : TypeId} (hpos : 0 < P.cellsOf e) (hok : ∀ b, b < w.heap.size → ok b) {a : Addr} {len cap : Nat} (hle : len ≤ cap) (hcap : cap ≤ maxLen) {Q : List V → Prop}
    (hch : ∀ i, i < len → ∃ vs cs', w.cells? base (a.add (i * P.cellsOf e)) (P.cellsOf e) = some cs' ∧ All2 (VRel w ok) vs cs' ∧ Q vs) :
    ∃ rows, VRel w ok (.sl rows) (.slice (some a) len cap) ∧ rows.length = len ∧ ∀ r ∈ rows, Q r := by
  rcases Nat.eq_zero_or_pos len with h0 | h0
  · subst h0
    exact ⟨[], .emp a cap hcap, rfl, fun r h => by cases h⟩
  · have hfirst : ∃ y, w.cell? a = some y := by
      obtain ⟨vs, cs', c1, _, _⟩ := hch 0 h0
      obtain ⟨_, hl, hc'⟩ := World.cells?_some c1
      have := hc' 0 hpos
      have hx : w.cell? a = cs'[0]? := by simpa [Addr.add] using this
      exact ⟨cs'[0], by rw [hx, List.getElem?_eq_getElem (by omega)]⟩
    obtain ⟨y0, hy0⟩ := hfirst
    have hspot := World.cell?_spot hy0
    have hblk : a.block < w.heap.size := by
      unfold World.cell? at hy0
      split at hy0
      · rename_i hb2; exact (Array.getElem?_eq_some_iff.1 hb2).1
      · cases hy0
    obtain ⟨ab, ao, asp⟩ := a
    simp only at hspot hblk
    subst hspot
    have hch' : ∀ i, ∃ vs cs', i < len → w.cells? base ((⟨ab, ao, none⟩ : Addr).add (i * P.cellsOf e)) (P.cellsOf e) = some cs' ∧ All2 (VRel w ok) vs cs' ∧ Q vs := by
      intro i
      by_cases hi : i < len
      · obtain ⟨vs, cs', h⟩ := hch i hi
        exact ⟨vs, cs', fun _ => h⟩
      · exact ⟨[], [], fun h => (hi h).elim⟩
    let R := fun i => Classical.choose (hch' i)
    have hR : ∀ i, ∃ cs', i < len → w.cells? base ((⟨ab, ao, none⟩ : Addr).add (i * P.cellsOf e)) (P.cellsOf e) = some cs' ∧ All2 (VRel w ok) (R i) cs' ∧ Q (R i) := fun i => Classical.choose_spec (hch' i)
    have hlen : ((List.range len).map R).length = len := by simp
    have hget : ∀ (i : Nat) row, ((List.range len).map R)[i]? = some row → i < len ∧ row = R i := by
      intro i row h
      have hi : i < len := by have := lt_of_getElem? h; simpa using this
      rw [List.getElem?_map, List.getElem?_range hi] at h
      exact ⟨hi, (Option.some.inj h).symm⟩
    have hcell : ∀ (i : Nat) row (j : Nat) v, ((List.range len).map R)[i]? = some row → row[j]? = some v → ∃ y, w.cell? ⟨ab, ao + (i * row.length + j), none⟩ = some y ∧ VRel w ok v y := by
      intro i row j v h1 h2
      obtain ⟨hi, rfl⟩ := hget i row h1
      obtain ⟨cs', hcs⟩ := hR i
      obtain ⟨c1, c2, _⟩ := hcs hi
      obtain ⟨_, hl, hc'⟩ := World.cells?_some c1
      obtain ⟨y, hy, hr⟩ := c2.get h2
      have hj : j < P.cellsOf e := by rw [← hl, ← c2.length]; exact lt_of_getElem? h2
      refine ⟨y, ?_, hr⟩
      have := hc' j hj
      rw [hy] at this
      have hrow : (R i).length = P.cellsOf e := by rw [c2.length, hl]
      rw [hrow, ← this, Addr.add_lit, Addr.add_lit, Nat.add_assoc]
    refine ⟨(List.range len).map R, ?_, hlen, fun r hr => ?_⟩
    · have hsl := VRel.sl (w := w) (ok := ok) ((List.range len).map R) ab ao cap
        (fun i j => match ((List.range len).map R)[i]? with | some row => (w.cell? ⟨ab, ao + (i * row.length + j), none⟩).getD undef | none => undef) (fun _ => hok _ hblk) (by rw [hlen]; exact hle) hcap ?_ ?_
      · rw [hlen] at hsl; exact hsl
      · intro i row j v h1 h2
        obtain ⟨y, hy, _⟩ := hcell i row j v h1 h2
        simp [h1, hy]
      · intro i row j v h1 h2
        obtain ⟨y, hy, hr⟩ := hcell i row j v h1 h2
        simp only [h1, hy, Option.getD_some]
        exact hr
    · obtain ⟨i, hi, rfl⟩ := List.mem_map.1 hr
      obtain ⟨cs', hcs⟩ := hR i
      exact (hcs (List.mem_range.1 hi)).2.2
theorem read_deep (K : Kids P T) {D : Bool} (hD : D = true → ∀ b, b < w.heap.size → ok b) : ∀ (n : Nat) (t : TypeId) (fuel : Nat) (cs : List Value) (x : DataW H × List MemPlace), T t → deepT P D n t = true → DataW.trod enc P w base spare held fuel t cs = some x →
    ∃ vs, All2 (VRel w ok) vs cs ∧ WT P n t vs := by
  intro n
  induction n with
  | zero => intro t fuel cs x _ h; cases h
  | succ n ih =>
    intro t fuel cs x hT hf h
    simp only [deepT] at hf
    simp only [WT]
    split at hf
    · cases hf
    · rename_i i hi
      have hs := tiOf_spec hi
      obtain ⟨d, hu, hd⟩ := und_ti hs
      split at hf
      · rename_i hsh
        rw [hsh] at hd
        have : P.underlying t = some .bool := by
          rw [hu]; unfold shOf at hd; split at hd <;> first | rfl | (cases hd; done) | (split at hd <;> cases hd; done)
        obtain ⟨b, rfl, _⟩ := DataW.trod_bool this h
        exact ⟨[.lit (.bool b)], .cons (.lit _ rfl) .nil, b, rfl⟩
      · rename_i k hsh
        rw [hsh] at hd
        have : P.underlying t = some (.int k) := by
          rw [hu]; unfold shOf at hd; split at hd <;> first | (cases hd; rfl) | (cases hd; done) | (split at hd <;> cases hd; done)
        obtain ⟨b, rfl, _, hw⟩ := DataW.trod_int this h
        exact ⟨[.lit (.int k b)], .cons (.lit _ rfl) .nil, b, rfl, hw⟩
      · rename_i hsh
        rw [hsh] at hd
        have : P.underlying t = some .string := by
          rw [hu]; unfold shOf at hd; split at hd <;> first | rfl | (cases hd; done) | (split at hd <;> cases hd; done)
        obtain ⟨b, rfl, _, hw⟩ := DataW.trod_string this h
        exact ⟨[.lit (.string b)], .cons (.lit _ rfl) .nil, b, rfl, hw⟩
      · rename_i fs hsh
        rw [hsh] at hd
        obtain ⟨gs, hgu, hgs⟩ : ∃ gs : Array Field, P.underlying t = some (.struct gs) ∧ fs = gs.toList.map fun f => (f.type, f.offset) := by
          unfold shOf at hd
          split at hd <;> first | (cases hd; done) | skip
          rename_i gs
          split at hd
          · cases hd; exact ⟨gs, hu, rfl⟩
          · cases hd
        subst hgs
        obtain ⟨k1, k2, k3⟩ := K.struct hT hgu
        obtain ⟨xs, m, rfl, _, hlen, hxl, hx⟩ := DataW.trod_struct hgu h
        have hfield : ∀ (j : Nat) (f : Field), gs.toList[j]? = some f → ∃ vs, All2 (VRel w ok) vs ((cs.drop f.offset).take (P.cellsOf f.type)) ∧ WT P n f.type vs ∧ ∃ q, tiOf P f.type = some q ∧ q.size = P.cellsOf f.type := by
          intro j f hj
          have hfa : gs[j]? = some f := by simpa using hj
          have hmem : f ∈ gs.toList := List.mem_of_getElem? hj
          have hfl : deepT P D n f.type = true := by
            rw [List.all_eq_true] at hf
            exact hf (f.type, f.offset) (List.mem_map.2 ⟨f, hmem, rfl⟩)
          have hxj := hx j f hfa
          have hjx : j < xs.length := by rw [hxl]; exact (Array.getElem?_eq_some_iff.1 hfa).1
          rw [List.getElem?_eq_getElem hjx] at hxj
          obtain ⟨vs, h1, h2⟩ := ih f.type m _ _ (k1 f hmem) hfl hxj
          refine ⟨vs, h1, h2, ?_⟩
          cases n with
          | zero => cases hfl
          | succ n =>
            simp only [deepT] at hfl
            split at hfl
            · cases hfl
            · rename_i q hq
              exact ⟨q, hq, (cellsOf_ti (tiOf_spec hq)).symm⟩
        let ns := gs.toList.map fun f => P.cellsOf f.type
        have hns : cs.length = ns.sum := by rw [hlen]; exact k2
        have hget : ∀ j : Nat, j < gs.toList.length → ∃ f, gs.toList[j]? = some f := fun j hj => ⟨_, List.getElem?_eq_getElem hj⟩
        have hch : ∀ j : Nat, ∃ vs, ∀ f : Field, gs.toList[j]? = some f → All2 (VRel w ok) vs ((cs.drop f.offset).take (P.cellsOf f.type)) ∧ WT P n f.type vs ∧ ∃ q, tiOf P f.type = some q ∧ q.size = P.cellsOf f.type := by
          intro j
          cases hj : gs.toList[j]? with
          | none => exact ⟨[], fun f h => by cases h⟩
          | some f =>
            obtain ⟨vs, h⟩ := hfield j f hj
            exact ⟨vs, fun f' h' => by cases h'; exact h⟩
        let V := fun j => Classical.choose (hch j)
        have hV : ∀ (j : Nat) (f : Field), gs.toList[j]? = some f → All2 (VRel w ok) (V j) ((cs.drop f.offset).take (P.cellsOf f.type)) ∧ WT P n f.type (V j) ∧ ∃ q, tiOf P f.type = some q ∧ q.size = P.cellsOf f.type := fun j => Classical.choose_spec (hch j)
        let L := (List.range ns.length).map V
        let M := (List.range ns.length).map fun j => (cs.drop (ns.take j).sum).take (ns.getD j 0)
        have hnl : ns.length = gs.toList.length := by simp [ns]
        have hML : All2 (All2 (VRel w ok)) L M := by
          refine All2.of_get (by simp [L, M]) ?_
          intro j a b ha hb
          simp only [L, M, List.getElem?_map] at ha hb
          have hjlt : j < ns.length := by
            rcases Nat.lt_or_ge j ns.length with h | h
            · exact h
            · rw [List.getElem?_eq_none (by simpa using h)] at ha; cases ha
          rw [List.getElem?_range hjlt] at ha hb
          simp only [Option.map_some, Option.some.injEq] at ha hb
          subst ha; subst hb
          obtain ⟨f, hj⟩ := hget j (by omega)
          have e1 : (ns.take j).sum = f.offset := by rw [k3 j f hj]; simp [ns, List.map_take]
          have e2 : ns.getD j 0 = P.cellsOf f.type := by simp [ns, List.getD_eq_getElem?_getD, hj]
          rw [e1, e2]
          exact (hV j f hj).1
        have hMf : M.flatten = cs := pieces ns cs hns
        have hA := all2_flatten hML
        rw [hMf] at hA
        refine ⟨L.flatten, hA, by rw [hA.length, hlen, cellsOf_ti hs], ?_⟩
        intro f hf'
        obtain ⟨g, hg, rfl⟩ := List.mem_map.1 hf'
        obtain ⟨j, hj⟩ := List.getElem?_of_mem hg
        obtain ⟨v1, v2, q, hq, hqs⟩ := hV j g hj
        refine ⟨q, hq, ?_⟩
        have hjlt : j < ns.length := by rw [hnl]; exact lt_of_getElem? hj
        have hLj : L[j]? = some (V j) := by simp [L, hjlt]
        have hlens : ∀ i : Nat, i < ns.length → (V i).length = ns.getD i 0 := by
          intro i hi
          obtain ⟨f, hif⟩ := hget i (by omega)
          have e2 : ns.getD i 0 = P.cellsOf f.type := by simp [ns, List.getD_eq_getElem?_getD, hif]
          rw [(hV i f hif).1.length, e2, List.length_take, List.length_drop]
          have hk := k3 i f hif
          have : ((gs.toList.take i).map fun f => P.cellsOf f.type).sum + P.cellsOf f.type ≤ ns.sum := by
            have h3 : ns = (gs.toList.take i).map (fun f => P.cellsOf f.type) ++ (gs.toList.drop i).map (fun f => P.cellsOf f.type) := by
              rw [← List.map_append, List.take_append_drop]
            rw [h3, List.sum_append]
            have h4 : gs.toList.drop i = f :: gs.toList.drop (i + 1) := by
              have := lt_of_getElem? hif
              rw [List.drop_eq_getElem_cons this]
              rw [List.getElem?_eq_getElem this] at hif
              rw [Option.some.inj hif]
            rw [h4, List.map_cons, List.sum_cons]
            omega
          rw [hns]
          omega
        have hoff : ((L.take j).map List.length).sum = g.offset := by
          rw [k3 j g hj]
          congr 1
          apply List.ext_getElem?
          intro i
          by_cases hi : i < j
          · have hin : i < ns.length := by omega
            obtain ⟨f, hif⟩ := hget i (by omega)
            have e2 : ns.getD i 0 = P.cellsOf f.type := by simp [ns, List.getD_eq_getElem?_getD, hif]
            have hLi : (L.take j)[i]? = some (V i) := by rw [List.getElem?_take_of_lt hi]; simp [L, hin]
            rw [List.getElem?_map, hLi, Option.map_some, hlens i hin, e2, List.getElem?_map, List.getElem?_take_of_lt hi, hif]
            rfl
          · simp [List.getElem?_take, hi]
        have htd := flatten_take_drop L j (V j) hLj
        rw [hoff] at htd
        have : q.size = (V j).length := by
          rw [hqs, hlens j hjlt]; simp [ns, List.getD_eq_getElem?_getD, hj]
        rw [this, htd]
        exact v2
      · rename_i e hsh
        rw [hsh] at hd
        have hu' : P.underlying t = some (.slice e) := by
          rw [hu]; unfold shOf at hd; split at hd <;> first | (cases hd; rfl) | (cases hd; done) | (split at hd <;> cases hd; done)
        simp only [Bool.and_eq_true, decide_eq_true_eq] at hf
        obtain ⟨hD', hpos, hfe⟩ := hf
        rcases Go.Deep.open_slice hu' h with ⟨rfl, _⟩ | ⟨a, len, cap, m, n', DD, Pl, rfl, _, hle, hcap, hm, _, hel⟩
        · exact ⟨[.sl []], .cons .nil .nil, [], rfl, by simp [maxLen], fun r h => by cases h⟩
        · have hlm : len ≤ m := by rw [hm]; split <;> omega
          obtain ⟨rows, h1, h2, h3⟩ := read_rows (w := w) (ok := ok) (base := base) (Q := fun r => WT P n e r) hpos (hD hD') hle hcap (a := a) (fun i hi => by
            obtain ⟨cs', h2, h3⟩ := hel i (by omega)
            obtain ⟨vs, h4, h5⟩ := ih e n' _ _ (K.slice hT hu') hfe h3
            exact ⟨vs, cs', h2, h4, h5⟩)
          exact ⟨[.sl rows], .cons h1 .nil, rows, rfl, by rw [h2]; omega, h3⟩
      · cases hf
theorem read_structD (K : Kids P T) {D : Bool} {n : Nat} {t : TypeId} {fs : Array Field} {v : Value} {d : DataW H} {ps : List MemPlace} {r : Reach} {b0 : Nat} (ht : P.underlying t = some (.struct fs)) (hT : T t) (hf : deepT P D n t = true) (hval : Value.okWide P w r b0 t v)
    (h : DataW.Trod enc P w base spare held t v d ps) (ok : Nat → Prop) (hD : D = true → ∀ b, b < w.heap.size → ok b) (μ : List MB) : ∃ vs, AVRel w ok μ (.agg (vs.map .v)) v ∧ WT P n t vs := by
  unfold Value.okWide at hval
  rw [ht] at hval
  obtain ⟨cs, rfl, _, _⟩ := hval
  obtain ⟨fuel, hfu⟩ := h
  obtain ⟨vs, h1, h2⟩ := read_deep (ok := ok) K hD n t fuel _ _ hT hf hfu
  exact ⟨vs, .agg (All2.map_left (h1.mono fun _ _ h => .v h)), h2⟩
theorem below_cell {w w' : World} {B : Nat} (hb : Below B w w') {a : Addr} (h : a.block < B) : w'.cell? a = w.cell? a := by
  unfold World.cell?
  rw [hb.block a.block h]
theorem good_lt {p : MemPlace} (h : Good w p) : p.block < w.heap.size := by
  cases p with
  | cell b off =>
    obtain ⟨v, h, _⟩ := h
    unfold World.cell? at h
    split at h
    · rename_i hb; exact (Array.getElem?_eq_some_iff.1 hb).1
    · cases h
  | map b =>
    obtain ⟨es, c, h⟩ := h
    exact (Array.getElem?_eq_some_iff.1 h).1
theorem trodAll_later (K : Kids P T) (hsz : ∀ {t e : TypeId}, T t → P.underlying t = some (.slice e) → 0 < P.cellsOf e) {w' : World} (hb : Below w.heap.size w w') :
    ∀ {ts : List TypeId} {vs : List Value} {ds : List (DataW H)} {ps : List MemPlace}, (∀ t ∈ ts, T t) → DataW.TrodAll enc P w base (fun _ => true) true ts vs ds ps → DataW.TrodAll enc P w' base (fun b => decide (b < w.heap.size)) true ts vs ds ps
  | [], [], [], _, _, h => h
  | t :: ts, v :: vs, d :: ds, _, hT, ⟨p, q, ⟨fuel, h1⟩, h2, h3⟩ => by
    have hg := DataW.trod_good K (fun h => by cases h) fuel t _ _ (hT t (List.mem_cons_self ..)) h1
    refine ⟨p, q, ⟨fuel, DataW.trod_stays K hsz (fun h => by cases h) (hT t (List.mem_cons_self ..)) h1 (fun x hx => ?_) fun x hx => ?_⟩, trodAll_later K hsz hb (fun t ht => hT t (List.mem_cons_of_mem _ ht)) h2, h3⟩
    · have := good_lt (hg x hx)
      cases x with
      | cell b off => exact below_cell hb this
      | map b => exact hb.block b this
    · simpa using good_lt (hg x hx)
  | [], _ :: _, _, _, _, h => by simp [DataW.TrodAll] at h
  | _ :: _, [], _, _, _, h => by simp [DataW.TrodAll] at h
  | [], [], _ :: _, _, _, h => by simp [DataW.TrodAll] at h
  | _ :: _, _ :: _, [], _, _, h => by simp [DataW.TrodAll] at h
def slicesOk (P : Program) : Bool := (List.range P.types.size).all fun t => match P.underlying t with | some (.slice e) => decide (0 < P.cellsOf e) | _ => true
theorem slicesOk_spec (h : slicesOk P = true) {t e : TypeId} (ht : t < P.types.size) (hu : P.underlying t = some (.slice e)) : 0 < P.cellsOf e := by
  unfold slicesOk at h
  rw [List.all_eq_true] at h
  have := h t (List.mem_range.2 ht)
  rw [hu] at this
  simpa using this
theorem WT_struct {n : Nat} {t : TypeId} {i : TI} {fs : List (Nat × Nat)} {vs : List V} (hi : tiOf P t = some i) (hs : i.sh = .struct fs) (h : WT P (n + 1) t vs) : vs.length = i.size ∧ ∀ f ∈ fs, ∃ j, tiOf P f.1 = some j ∧ WT P n f.1 ((vs.drop f.2).take j.size) := by
  simp only [WT, hi, hs] at h
  exact h
end
end Go.Proofs.AE
set_option linter.unusedVariables false
set_option linter.unusedSimpArgs false
set_option maxRecDepth 100000
set_option maxHeartbeats 8000000
namespace Go.Proofs.YtpdcfljbabpakaaGreatDoor
open Go Go.RowKit Go.Proofs.AE
variable {G : Nat → AV}
theorem kids : Kids Tryz.prog (· < Tryz.prog.types.size) := kids_rows (by kernel_rfl) (by kernel_rfl)
theorem slok : slicesOk Tryz.prog = true := by kernel_rfl
def someS (n : Int) : ByteArray := ⟨#[UInt8.ofNat (97 + pk n 9).toNat]⟩
theorem some_c (n : Int) (hn : i64 n) : PCall Tryz.prog G 109 [iV n] (sV (someS n)) := by
  have hk := pk_range (n := n) (m := 9) (by omega)
  have hw : IntKind.i64.wrap (97 + pk n 9) = 97 + pk n 9 := IntWalk.i64_in _ (by omega)
  have hw8 : IntKind.u8.wrap (97 + pk n 9) = 97 + pk n 9 := by
    exact IntWalk.u8_in _ (by omega)
  refine pcallc mixed Tryz.func109 ac_rostrumkeep_some ?_
  unfold someS
  repeat' (first | (with_reducible first | refine Cn (fun h => ?_) fun h => ?_ | refine And.intro ?_ ?_ | refine wR ?_ | exact wr _ _ | refine wa ?_ | apply awp_join | refine q1 (by exact picked_c _ _ (by assumption) (by simp)) ?_ | refine q1d (by exact picked_c _ _ (by assumption) (by simp)) ?_) | (with_reducible refine CallZ.z ?_) | simp -dsimp [go_sem, hw, hw8, bytesOf, AE.byteOf])
def cutS (s : ByteArray) (n : Int) : ByteArray := s.extract 0 (if n < (s.size : Int) then n else (s.size : Int)).toNat
theorem cut_c (s : ByteArray) (n : Int) (hn : 0 ≤ n) : PCall Tryz.prog G 110 [sV s, iV n] (sV (cutS s n)) := by
  refine pcallc mixed Tryz.func110 ac_rostrumkeep_cut ?_
  unfold cutS
  have h1 : 0 ≤ if n < (s.size : Int) then n else (s.size : Int) := by split <;> omega
  have h2 : (if n < (s.size : Int) then n else (s.size : Int)) ≤ (s.size : Int) := by split <;> omega
  simp -dsimp [go_sem, h1, h2]
theorem cutS_size (s : ByteArray) {n : Int} (hn : 0 ≤ n) : ((cutS s n).size : Int) ≤ n := by
  unfold cutS
  rw [ByteArray.size_extract]
  split <;> omega
def cmdText (n : Int) (text : ByteArray) : ByteArray := if pk n 3 = 0 then someS n else cutS text 6
def cmdOf (k key field n : Int) (text : ByteArray) : List C :=
  [iC k, sC (if k = 22 then ⟨#[]⟩ else someS key), sC (if k = 4 ∨ k = 5 ∨ k = 6 then someS field else ⟨#[]⟩),
   sC (if k = 1 ∨ k = 4 ∨ k = 7 ∨ k = 8 ∨ k = 11 ∨ k = 12 ∨ k = 13 ∨ k = 14 ∨ k = 15 ∨ k = 16 then cmdText n text else ⟨#[]⟩),
   iC (if k = 3 then n.tmod 1073741824 else if k = 20 then pk n 60 else if k = 14 then pk n 12 - 6 else 0)]
theorem cmd6 (n : Int) : IntKind.i64.wrap (pk n 12 - 6) = pk n 12 - 6 := by
  have := pk_range (n := n) (m := 12) (by omega)
  exact IntWalk.i64_in _ (by omega)
theorem command0_c (kind key field n : Int) (text : ByteArray) (h1 : i64 kind) (h2 : i64 key) (h3 : i64 field) (h4 : i64 n) (hk : pk kind 22 = 0) : PCall Tryz.prog G 87 [.agg [iC kind, iC key, iC field, iC n, sC text]] (.agg (cmdOf (1 + pk kind 22) key field n text)) := by
  rw [hk]
  refine pcallc mixed Tryz.func87 ac_rostrumkeep_Command ?_
  have e : IntKind.i64.wrap (1 + 0) = 1 + 0 := by rfl
  simp -dsimp [go_sem]
  refine awp_join ⟨[(1, .one (.ptr 0 0)), (2, .one (.ptr 1 0)), (3, .one (.ptr 2 0))], G, [some (.box 79 [iC kind, iC key, iC field, iC n, sC text]), some (.box 37 [iC 0, sC ⟨#[]⟩, sC ⟨#[]⟩, sC ⟨#[]⟩, iC 0]), some (.box 37 [iC (1 + 0), sC (someS key), sC ⟨#[]⟩, sC ⟨#[]⟩, iC 0])]⟩ ?_ ?_
  repeat' (first | (with_reducible first | refine Cn (fun h => ?_) fun h => ?_ | refine And.intro ?_ ?_ | refine wR ?_ | exact wr _ _ | refine wa ?_ | apply awp_join | refine q1 (by exact picked_c _ _ (by assumption) (by simp)) ?_ | refine q1d (by exact picked_c _ _ (by assumption) (by simp)) ?_ | refine q1 (by exact some_c _ (by assumption)) ?_ | refine q1d (by exact some_c _ (by assumption)) ?_ | refine q1 (by exact picked_c _ _ (by assumption) (by simp)) ?_ | refine q1d (by exact picked_c _ _ (by assumption) (by simp)) ?_ | refine q1 (by exact some_c _ (by assumption)) ?_ | refine q1d (by exact some_c _ (by assumption)) ?_ | refine q1 (by exact cut_c _ _ (by simp)) ?_ | refine q1d (by exact cut_c _ _ (by simp)) ?_) | (with_reducible refine CallZ.z ?_) | simp -dsimp [go_sem, hk, e, cmd6])
  all_goals simp_all [cmdOf, cmdText, coeCs, coeC]
theorem command1_c (kind key field n : Int) (text : ByteArray) (h1 : i64 kind) (h2 : i64 key) (h3 : i64 field) (h4 : i64 n) (hk : pk kind 22 = 1) : PCall Tryz.prog G 87 [.agg [iC kind, iC key, iC field, iC n, sC text]] (.agg (cmdOf (1 + pk kind 22) key field n text)) := by
  rw [hk]
  refine pcallc mixed Tryz.func87 ac_rostrumkeep_Command ?_
  have e : IntKind.i64.wrap (1 + 1) = 1 + 1 := by rfl
  simp -dsimp [go_sem]
  refine awp_join ⟨[(1, .one (.ptr 0 0)), (2, .one (.ptr 1 0)), (3, .one (.ptr 2 0))], G, [some (.box 79 [iC kind, iC key, iC field, iC n, sC text]), some (.box 37 [iC 0, sC ⟨#[]⟩, sC ⟨#[]⟩, sC ⟨#[]⟩, iC 0]), some (.box 37 [iC (1 + 1), sC (someS key), sC ⟨#[]⟩, sC ⟨#[]⟩, iC 0])]⟩ ?_ ?_
  repeat' (first | (with_reducible first | refine Cn (fun h => ?_) fun h => ?_ | refine And.intro ?_ ?_ | refine wR ?_ | exact wr _ _ | refine wa ?_ | apply awp_join | refine q1 (by exact picked_c _ _ (by assumption) (by simp)) ?_ | refine q1d (by exact picked_c _ _ (by assumption) (by simp)) ?_ | refine q1 (by exact some_c _ (by assumption)) ?_ | refine q1d (by exact some_c _ (by assumption)) ?_ | refine q1 (by exact picked_c _ _ (by assumption) (by simp)) ?_ | refine q1d (by exact picked_c _ _ (by assumption) (by simp)) ?_ | refine q1 (by exact some_c _ (by assumption)) ?_ | refine q1d (by exact some_c _ (by assumption)) ?_ | refine q1 (by exact cut_c _ _ (by simp)) ?_ | refine q1d (by exact cut_c _ _ (by simp)) ?_) | (with_reducible refine CallZ.z ?_) | simp -dsimp [go_sem, hk, e, cmd6])
  all_goals simp_all [cmdOf, cmdText, coeCs, coeC]
theorem command2_c (kind key field n : Int) (text : ByteArray) (h1 : i64 kind) (h2 : i64 key) (h3 : i64 field) (h4 : i64 n) (hk : pk kind 22 = 2) : PCall Tryz.prog G 87 [.agg [iC kind, iC key, iC field, iC n, sC text]] (.agg (cmdOf (1 + pk kind 22) key field n text)) := by
  rw [hk]
  refine pcallc mixed Tryz.func87 ac_rostrumkeep_Command ?_
  have e : IntKind.i64.wrap (1 + 2) = 1 + 2 := by rfl
  simp -dsimp [go_sem]
  refine awp_join ⟨[(1, .one (.ptr 0 0)), (2, .one (.ptr 1 0)), (3, .one (.ptr 2 0))], G, [some (.box 79 [iC kind, iC key, iC field, iC n, sC text]), some (.box 37 [iC 0, sC ⟨#[]⟩, sC ⟨#[]⟩, sC ⟨#[]⟩, iC 0]), some (.box 37 [iC (1 + 2), sC (someS key), sC ⟨#[]⟩, sC ⟨#[]⟩, iC 0])]⟩ ?_ ?_
  repeat' (first | (with_reducible first | refine Cn (fun h => ?_) fun h => ?_ | refine And.intro ?_ ?_ | refine wR ?_ | exact wr _ _ | refine wa ?_ | apply awp_join | refine q1 (by exact picked_c _ _ (by assumption) (by simp)) ?_ | refine q1d (by exact picked_c _ _ (by assumption) (by simp)) ?_ | refine q1 (by exact some_c _ (by assumption)) ?_ | refine q1d (by exact some_c _ (by assumption)) ?_ | refine q1 (by exact picked_c _ _ (by assumption) (by simp)) ?_ | refine q1d (by exact picked_c _ _ (by assumption) (by simp)) ?_ | refine q1 (by exact some_c _ (by assumption)) ?_ | refine q1d (by exact some_c _ (by assumption)) ?_ | refine q1 (by exact cut_c _ _ (by simp)) ?_ | refine q1d (by exact cut_c _ _ (by simp)) ?_) | (with_reducible refine CallZ.z ?_) | simp -dsimp [go_sem, hk, e, cmd6])
  all_goals simp_all [cmdOf, cmdText, coeCs, coeC]
theorem command3_c (kind key field n : Int) (text : ByteArray) (h1 : i64 kind) (h2 : i64 key) (h3 : i64 field) (h4 : i64 n) (hk : pk kind 22 = 3) : PCall Tryz.prog G 87 [.agg [iC kind, iC key, iC field, iC n, sC text]] (.agg (cmdOf (1 + pk kind 22) key field n text)) := by
  rw [hk]
  refine pcallc mixed Tryz.func87 ac_rostrumkeep_Command ?_
  have e : IntKind.i64.wrap (1 + 3) = 1 + 3 := by rfl
  simp -dsimp [go_sem]
  refine awp_join ⟨[(1, .one (.ptr 0 0)), (2, .one (.ptr 1 0)), (3, .one (.ptr 2 0))], G, [some (.box 79 [iC kind, iC key, iC field, iC n, sC text]), some (.box 37 [iC 0, sC ⟨#[]⟩, sC ⟨#[]⟩, sC ⟨#[]⟩, iC 0]), some (.box 37 [iC (1 + 3), sC (someS key), sC ⟨#[]⟩, sC ⟨#[]⟩, iC 0])]⟩ ?_ ?_
  repeat' (first | (with_reducible first | refine Cn (fun h => ?_) fun h => ?_ | refine And.intro ?_ ?_ | refine wR ?_ | exact wr _ _ | refine wa ?_ | apply awp_join | refine q1 (by exact picked_c _ _ (by assumption) (by simp)) ?_ | refine q1d (by exact picked_c _ _ (by assumption) (by simp)) ?_ | refine q1 (by exact some_c _ (by assumption)) ?_ | refine q1d (by exact some_c _ (by assumption)) ?_ | refine q1 (by exact picked_c _ _ (by assumption) (by simp)) ?_ | refine q1d (by exact picked_c _ _ (by assumption) (by simp)) ?_ | refine q1 (by exact some_c _ (by assumption)) ?_ | refine q1d (by exact some_c _ (by assumption)) ?_ | refine q1 (by exact cut_c _ _ (by simp)) ?_ | refine q1d (by exact cut_c _ _ (by simp)) ?_) | (with_reducible refine CallZ.z ?_) | simp -dsimp [go_sem, hk, e, cmd6])
  all_goals simp_all [cmdOf, cmdText, coeCs, coeC]
theorem command4_c (kind key field n : Int) (text : ByteArray) (h1 : i64 kind) (h2 : i64 key) (h3 : i64 field) (h4 : i64 n) (hk : pk kind 22 = 4) : PCall Tryz.prog G 87 [.agg [iC kind, iC key, iC field, iC n, sC text]] (.agg (cmdOf (1 + pk kind 22) key field n text)) := by
  rw [hk]
  refine pcallc mixed Tryz.func87 ac_rostrumkeep_Command ?_
  have e : IntKind.i64.wrap (1 + 4) = 1 + 4 := by rfl
  simp -dsimp [go_sem]
  refine awp_join ⟨[(1, .one (.ptr 0 0)), (2, .one (.ptr 1 0)), (3, .one (.ptr 2 0))], G, [some (.box 79 [iC kind, iC key, iC field, iC n, sC text]), some (.box 37 [iC 0, sC ⟨#[]⟩, sC ⟨#[]⟩, sC ⟨#[]⟩, iC 0]), some (.box 37 [iC (1 + 4), sC (someS key), sC ⟨#[]⟩, sC ⟨#[]⟩, iC 0])]⟩ ?_ ?_
  repeat' (first | (with_reducible first | refine Cn (fun h => ?_) fun h => ?_ | refine And.intro ?_ ?_ | refine wR ?_ | exact wr _ _ | refine wa ?_ | apply awp_join | refine q1 (by exact picked_c _ _ (by assumption) (by simp)) ?_ | refine q1d (by exact picked_c _ _ (by assumption) (by simp)) ?_ | refine q1 (by exact some_c _ (by assumption)) ?_ | refine q1d (by exact some_c _ (by assumption)) ?_ | refine q1 (by exact picked_c _ _ (by assumption) (by simp)) ?_ | refine q1d (by exact picked_c _ _ (by assumption) (by simp)) ?_ | refine q1 (by exact some_c _ (by assumption)) ?_ | refine q1d (by exact some_c _ (by assumption)) ?_ | refine q1 (by exact cut_c _ _ (by simp)) ?_ | refine q1d (by exact cut_c _ _ (by simp)) ?_) | (with_reducible refine CallZ.z ?_) | simp -dsimp [go_sem, hk, e, cmd6])
  all_goals simp_all [cmdOf, cmdText, coeCs, coeC]
theorem command5_c (kind key field n : Int) (text : ByteArray) (h1 : i64 kind) (h2 : i64 key) (h3 : i64 field) (h4 : i64 n) (hk : pk kind 22 = 5) : PCall Tryz.prog G 87 [.agg [iC kind, iC key, iC field, iC n, sC text]] (.agg (cmdOf (1 + pk kind 22) key field n text)) := by
  rw [hk]
  refine pcallc mixed Tryz.func87 ac_rostrumkeep_Command ?_
  have e : IntKind.i64.wrap (1 + 5) = 1 + 5 := by rfl
  simp -dsimp [go_sem]
  refine awp_join ⟨[(1, .one (.ptr 0 0)), (2, .one (.ptr 1 0)), (3, .one (.ptr 2 0))], G, [some (.box 79 [iC kind, iC key, iC field, iC n, sC text]), some (.box 37 [iC 0, sC ⟨#[]⟩, sC ⟨#[]⟩, sC ⟨#[]⟩, iC 0]), some (.box 37 [iC (1 + 5), sC (someS key), sC ⟨#[]⟩, sC ⟨#[]⟩, iC 0])]⟩ ?_ ?_
  repeat' (first | (with_reducible first | refine Cn (fun h => ?_) fun h => ?_ | refine And.intro ?_ ?_ | refine wR ?_ | exact wr _ _ | refine wa ?_ | apply awp_join | refine q1 (by exact picked_c _ _ (by assumption) (by simp)) ?_ | refine q1d (by exact picked_c _ _ (by assumption) (by simp)) ?_ | refine q1 (by exact some_c _ (by assumption)) ?_ | refine q1d (by exact some_c _ (by assumption)) ?_ | refine q1 (by exact picked_c _ _ (by assumption) (by simp)) ?_ | refine q1d (by exact picked_c _ _ (by assumption) (by simp)) ?_ | refine q1 (by exact some_c _ (by assumption)) ?_ | refine q1d (by exact some_c _ (by assumption)) ?_ | refine q1 (by exact cut_c _ _ (by simp)) ?_ | refine q1d (by exact cut_c _ _ (by simp)) ?_) | (with_reducible refine CallZ.z ?_) | simp -dsimp [go_sem, hk, e, cmd6])
  all_goals simp_all [cmdOf, cmdText, coeCs, coeC]
theorem command6_c (kind key field n : Int) (text : ByteArray) (h1 : i64 kind) (h2 : i64 key) (h3 : i64 field) (h4 : i64 n) (hk : pk kind 22 = 6) : PCall Tryz.prog G 87 [.agg [iC kind, iC key, iC field, iC n, sC text]] (.agg (cmdOf (1 + pk kind 22) key field n text)) := by
  rw [hk]
  refine pcallc mixed Tryz.func87 ac_rostrumkeep_Command ?_
  have e : IntKind.i64.wrap (1 + 6) = 1 + 6 := by rfl
  simp -dsimp [go_sem]
  refine awp_join ⟨[(1, .one (.ptr 0 0)), (2, .one (.ptr 1 0)), (3, .one (.ptr 2 0))], G, [some (.box 79 [iC kind, iC key, iC field, iC n, sC text]), some (.box 37 [iC 0, sC ⟨#[]⟩, sC ⟨#[]⟩, sC ⟨#[]⟩, iC 0]), some (.box 37 [iC (1 + 6), sC (someS key), sC ⟨#[]⟩, sC ⟨#[]⟩, iC 0])]⟩ ?_ ?_
  repeat' (first | (with_reducible first | refine Cn (fun h => ?_) fun h => ?_ | refine And.intro ?_ ?_ | refine wR ?_ | exact wr _ _ | refine wa ?_ | apply awp_join | refine q1 (by exact picked_c _ _ (by assumption) (by simp)) ?_ | refine q1d (by exact picked_c _ _ (by assumption) (by simp)) ?_ | refine q1 (by exact some_c _ (by assumption)) ?_ | refine q1d (by exact some_c _ (by assumption)) ?_ | refine q1 (by exact picked_c _ _ (by assumption) (by simp)) ?_ | refine q1d (by exact picked_c _ _ (by assumption) (by simp)) ?_ | refine q1 (by exact some_c _ (by assumption)) ?_ | refine q1d (by exact some_c _ (by assumption)) ?_ | refine q1 (by exact cut_c _ _ (by simp)) ?_ | refine q1d (by exact cut_c _ _ (by simp)) ?_) | (with_reducible refine CallZ.z ?_) | simp -dsimp [go_sem, hk, e, cmd6])
  all_goals simp_all [cmdOf, cmdText, coeCs, coeC]
theorem command7_c (kind key field n : Int) (text : ByteArray) (h1 : i64 kind) (h2 : i64 key) (h3 : i64 field) (h4 : i64 n) (hk : pk kind 22 = 7) : PCall Tryz.prog G 87 [.agg [iC kind, iC key, iC field, iC n, sC text]] (.agg (cmdOf (1 + pk kind 22) key field n text)) := by
  rw [hk]
  refine pcallc mixed Tryz.func87 ac_rostrumkeep_Command ?_
  have e : IntKind.i64.wrap (1 + 7) = 1 + 7 := by rfl
  simp -dsimp [go_sem]
  refine awp_join ⟨[(1, .one (.ptr 0 0)), (2, .one (.ptr 1 0)), (3, .one (.ptr 2 0))], G, [some (.box 79 [iC kind, iC key, iC field, iC n, sC text]), some (.box 37 [iC 0, sC ⟨#[]⟩, sC ⟨#[]⟩, sC ⟨#[]⟩, iC 0]), some (.box 37 [iC (1 + 7), sC (someS key), sC ⟨#[]⟩, sC ⟨#[]⟩, iC 0])]⟩ ?_ ?_
  repeat' (first | (with_reducible first | refine Cn (fun h => ?_) fun h => ?_ | refine And.intro ?_ ?_ | refine wR ?_ | exact wr _ _ | refine wa ?_ | apply awp_join | refine q1 (by exact picked_c _ _ (by assumption) (by simp)) ?_ | refine q1d (by exact picked_c _ _ (by assumption) (by simp)) ?_ | refine q1 (by exact some_c _ (by assumption)) ?_ | refine q1d (by exact some_c _ (by assumption)) ?_ | refine q1 (by exact picked_c _ _ (by assumption) (by simp)) ?_ | refine q1d (by exact picked_c _ _ (by assumption) (by simp)) ?_ | refine q1 (by exact some_c _ (by assumption)) ?_ | refine q1d (by exact some_c _ (by assumption)) ?_ | refine q1 (by exact cut_c _ _ (by simp)) ?_ | refine q1d (by exact cut_c _ _ (by simp)) ?_) | (with_reducible refine CallZ.z ?_) | simp -dsimp [go_sem, hk, e, cmd6])
  all_goals simp_all [cmdOf, cmdText, coeCs, coeC]
theorem command8_c (kind key field n : Int) (text : ByteArray) (h1 : i64 kind) (h2 : i64 key) (h3 : i64 field) (h4 : i64 n) (hk : pk kind 22 = 8) : PCall Tryz.prog G 87 [.agg [iC kind, iC key, iC field, iC n, sC text]] (.agg (cmdOf (1 + pk kind 22) key field n text)) := by
  rw [hk]
  refine pcallc mixed Tryz.func87 ac_rostrumkeep_Command ?_
  have e : IntKind.i64.wrap (1 + 8) = 1 + 8 := by rfl
  simp -dsimp [go_sem]
  refine awp_join ⟨[(1, .one (.ptr 0 0)), (2, .one (.ptr 1 0)), (3, .one (.ptr 2 0))], G, [some (.box 79 [iC kind, iC key, iC field, iC n, sC text]), some (.box 37 [iC 0, sC ⟨#[]⟩, sC ⟨#[]⟩, sC ⟨#[]⟩, iC 0]), some (.box 37 [iC (1 + 8), sC (someS key), sC ⟨#[]⟩, sC ⟨#[]⟩, iC 0])]⟩ ?_ ?_
  repeat' (first | (with_reducible first | refine Cn (fun h => ?_) fun h => ?_ | refine And.intro ?_ ?_ | refine wR ?_ | exact wr _ _ | refine wa ?_ | apply awp_join | refine q1 (by exact picked_c _ _ (by assumption) (by simp)) ?_ | refine q1d (by exact picked_c _ _ (by assumption) (by simp)) ?_ | refine q1 (by exact some_c _ (by assumption)) ?_ | refine q1d (by exact some_c _ (by assumption)) ?_ | refine q1 (by exact picked_c _ _ (by assumption) (by simp)) ?_ | refine q1d (by exact picked_c _ _ (by assumption) (by simp)) ?_ | refine q1 (by exact some_c _ (by assumption)) ?_ | refine q1d (by exact some_c _ (by assumption)) ?_ | refine q1 (by exact cut_c _ _ (by simp)) ?_ | refine q1d (by exact cut_c _ _ (by simp)) ?_) | (with_reducible refine CallZ.z ?_) | simp -dsimp [go_sem, hk, e, cmd6])
  all_goals simp_all [cmdOf, cmdText, coeCs, coeC]
theorem command9_c (kind key field n : Int) (text : ByteArray) (h1 : i64 kind) (h2 : i64 key) (h3 : i64 field) (h4 : i64 n) (hk : pk kind 22 = 9) : PCall Tryz.prog G 87 [.agg [iC kind, iC key, iC field, iC n, sC text]] (.agg (cmdOf (1 + pk kind 22) key field n text)) := by
  rw [hk]
  refine pcallc mixed Tryz.func87 ac_rostrumkeep_Command ?_
  have e : IntKind.i64.wrap (1 + 9) = 1 + 9 := by rfl
  simp -dsimp [go_sem]
  refine awp_join ⟨[(1, .one (.ptr 0 0)), (2, .one (.ptr 1 0)), (3, .one (.ptr 2 0))], G, [some (.box 79 [iC kind, iC key, iC field, iC n, sC text]), some (.box 37 [iC 0, sC ⟨#[]⟩, sC ⟨#[]⟩, sC ⟨#[]⟩, iC 0]), some (.box 37 [iC (1 + 9), sC (someS key), sC ⟨#[]⟩, sC ⟨#[]⟩, iC 0])]⟩ ?_ ?_
  repeat' (first | (with_reducible first | refine Cn (fun h => ?_) fun h => ?_ | refine And.intro ?_ ?_ | refine wR ?_ | exact wr _ _ | refine wa ?_ | apply awp_join | refine q1 (by exact picked_c _ _ (by assumption) (by simp)) ?_ | refine q1d (by exact picked_c _ _ (by assumption) (by simp)) ?_ | refine q1 (by exact some_c _ (by assumption)) ?_ | refine q1d (by exact some_c _ (by assumption)) ?_ | refine q1 (by exact picked_c _ _ (by assumption) (by simp)) ?_ | refine q1d (by exact picked_c _ _ (by assumption) (by simp)) ?_ | refine q1 (by exact some_c _ (by assumption)) ?_ | refine q1d (by exact some_c _ (by assumption)) ?_ | refine q1 (by exact cut_c _ _ (by simp)) ?_ | refine q1d (by exact cut_c _ _ (by simp)) ?_) | (with_reducible refine CallZ.z ?_) | simp -dsimp [go_sem, hk, e, cmd6])
  all_goals simp_all [cmdOf, cmdText, coeCs, coeC]
theorem command10_c (kind key field n : Int) (text : ByteArray) (h1 : i64 kind) (h2 : i64 key) (h3 : i64 field) (h4 : i64 n) (hk : pk kind 22 = 10) : PCall Tryz.prog G 87 [.agg [iC kind, iC key, iC field, iC n, sC text]] (.agg (cmdOf (1 + pk kind 22) key field n text)) := by
  rw [hk]
  refine pcallc mixed Tryz.func87 ac_rostrumkeep_Command ?_
  have e : IntKind.i64.wrap (1 + 10) = 1 + 10 := by rfl
  simp -dsimp [go_sem]
  refine awp_join ⟨[(1, .one (.ptr 0 0)), (2, .one (.ptr 1 0)), (3, .one (.ptr 2 0))], G, [some (.box 79 [iC kind, iC key, iC field, iC n, sC text]), some (.box 37 [iC 0, sC ⟨#[]⟩, sC ⟨#[]⟩, sC ⟨#[]⟩, iC 0]), some (.box 37 [iC (1 + 10), sC (someS key), sC ⟨#[]⟩, sC ⟨#[]⟩, iC 0])]⟩ ?_ ?_
  repeat' (first | (with_reducible first | refine Cn (fun h => ?_) fun h => ?_ | refine And.intro ?_ ?_ | refine wR ?_ | exact wr _ _ | refine wa ?_ | apply awp_join | refine q1 (by exact picked_c _ _ (by assumption) (by simp)) ?_ | refine q1d (by exact picked_c _ _ (by assumption) (by simp)) ?_ | refine q1 (by exact some_c _ (by assumption)) ?_ | refine q1d (by exact some_c _ (by assumption)) ?_ | refine q1 (by exact picked_c _ _ (by assumption) (by simp)) ?_ | refine q1d (by exact picked_c _ _ (by assumption) (by simp)) ?_ | refine q1 (by exact some_c _ (by assumption)) ?_ | refine q1d (by exact some_c _ (by assumption)) ?_ | refine q1 (by exact cut_c _ _ (by simp)) ?_ | refine q1d (by exact cut_c _ _ (by simp)) ?_) | (with_reducible refine CallZ.z ?_) | simp -dsimp [go_sem, hk, e, cmd6])
  all_goals simp_all [cmdOf, cmdText, coeCs, coeC]
theorem command11_c (kind key field n : Int) (text : ByteArray) (h1 : i64 kind) (h2 : i64 key) (h3 : i64 field) (h4 : i64 n) (hk : pk kind 22 = 11) : PCall Tryz.prog G 87 [.agg [iC kind, iC key, iC field, iC n, sC text]] (.agg (cmdOf (1 + pk kind 22) key field n text)) := by
  rw [hk]
  refine pcallc mixed Tryz.func87 ac_rostrumkeep_Command ?_
  have e : IntKind.i64.wrap (1 + 11) = 1 + 11 := by rfl
  simp -dsimp [go_sem]
  refine awp_join ⟨[(1, .one (.ptr 0 0)), (2, .one (.ptr 1 0)), (3, .one (.ptr 2 0))], G, [some (.box 79 [iC kind, iC key, iC field, iC n, sC text]), some (.box 37 [iC 0, sC ⟨#[]⟩, sC ⟨#[]⟩, sC ⟨#[]⟩, iC 0]), some (.box 37 [iC (1 + 11), sC (someS key), sC ⟨#[]⟩, sC ⟨#[]⟩, iC 0])]⟩ ?_ ?_
  repeat' (first | (with_reducible first | refine Cn (fun h => ?_) fun h => ?_ | refine And.intro ?_ ?_ | refine wR ?_ | exact wr _ _ | refine wa ?_ | apply awp_join | refine q1 (by exact picked_c _ _ (by assumption) (by simp)) ?_ | refine q1d (by exact picked_c _ _ (by assumption) (by simp)) ?_ | refine q1 (by exact some_c _ (by assumption)) ?_ | refine q1d (by exact some_c _ (by assumption)) ?_ | refine q1 (by exact picked_c _ _ (by assumption) (by simp)) ?_ | refine q1d (by exact picked_c _ _ (by assumption) (by simp)) ?_ | refine q1 (by exact some_c _ (by assumption)) ?_ | refine q1d (by exact some_c _ (by assumption)) ?_ | refine q1 (by exact cut_c _ _ (by simp)) ?_ | refine q1d (by exact cut_c _ _ (by simp)) ?_) | (with_reducible refine CallZ.z ?_) | simp -dsimp [go_sem, hk, e, cmd6])
  all_goals simp_all [cmdOf, cmdText, coeCs, coeC]
theorem command12_c (kind key field n : Int) (text : ByteArray) (h1 : i64 kind) (h2 : i64 key) (h3 : i64 field) (h4 : i64 n) (hk : pk kind 22 = 12) : PCall Tryz.prog G 87 [.agg [iC kind, iC key, iC field, iC n, sC text]] (.agg (cmdOf (1 + pk kind 22) key field n text)) := by
  rw [hk]
  refine pcallc mixed Tryz.func87 ac_rostrumkeep_Command ?_
  have e : IntKind.i64.wrap (1 + 12) = 1 + 12 := by rfl
  simp -dsimp [go_sem]
  refine awp_join ⟨[(1, .one (.ptr 0 0)), (2, .one (.ptr 1 0)), (3, .one (.ptr 2 0))], G, [some (.box 79 [iC kind, iC key, iC field, iC n, sC text]), some (.box 37 [iC 0, sC ⟨#[]⟩, sC ⟨#[]⟩, sC ⟨#[]⟩, iC 0]), some (.box 37 [iC (1 + 12), sC (someS key), sC ⟨#[]⟩, sC ⟨#[]⟩, iC 0])]⟩ ?_ ?_
  repeat' (first | (with_reducible first | refine Cn (fun h => ?_) fun h => ?_ | refine And.intro ?_ ?_ | refine wR ?_ | exact wr _ _ | refine wa ?_ | apply awp_join | refine q1 (by exact picked_c _ _ (by assumption) (by simp)) ?_ | refine q1d (by exact picked_c _ _ (by assumption) (by simp)) ?_ | refine q1 (by exact some_c _ (by assumption)) ?_ | refine q1d (by exact some_c _ (by assumption)) ?_ | refine q1 (by exact picked_c _ _ (by assumption) (by simp)) ?_ | refine q1d (by exact picked_c _ _ (by assumption) (by simp)) ?_ | refine q1 (by exact some_c _ (by assumption)) ?_ | refine q1d (by exact some_c _ (by assumption)) ?_ | refine q1 (by exact cut_c _ _ (by simp)) ?_ | refine q1d (by exact cut_c _ _ (by simp)) ?_) | (with_reducible refine CallZ.z ?_) | simp -dsimp [go_sem, hk, e, cmd6])
  all_goals simp_all [cmdOf, cmdText, coeCs, coeC]
theorem command13_c (kind key field n : Int) (text : ByteArray) (h1 : i64 kind) (h2 : i64 key) (h3 : i64 field) (h4 : i64 n) (hk : pk kind 22 = 13) : PCall Tryz.prog G 87 [.agg [iC kind, iC key, iC field, iC n, sC text]] (.agg (cmdOf (1 + pk kind 22) key field n text)) := by
  rw [hk]
  refine pcallc mixed Tryz.func87 ac_rostrumkeep_Command ?_
  have e : IntKind.i64.wrap (1 + 13) = 1 + 13 := by rfl
  simp -dsimp [go_sem]
  refine awp_join ⟨[(1, .one (.ptr 0 0)), (2, .one (.ptr 1 0)), (3, .one (.ptr 2 0))], G, [some (.box 79 [iC kind, iC key, iC field, iC n, sC text]), some (.box 37 [iC 0, sC ⟨#[]⟩, sC ⟨#[]⟩, sC ⟨#[]⟩, iC 0]), some (.box 37 [iC (1 + 13), sC (someS key), sC ⟨#[]⟩, sC ⟨#[]⟩, iC 0])]⟩ ?_ ?_
  repeat' (first | (with_reducible first | refine Cn (fun h => ?_) fun h => ?_ | refine And.intro ?_ ?_ | refine wR ?_ | exact wr _ _ | refine wa ?_ | apply awp_join | refine q1 (by exact picked_c _ _ (by assumption) (by simp)) ?_ | refine q1d (by exact picked_c _ _ (by assumption) (by simp)) ?_ | refine q1 (by exact some_c _ (by assumption)) ?_ | refine q1d (by exact some_c _ (by assumption)) ?_ | refine q1 (by exact picked_c _ _ (by assumption) (by simp)) ?_ | refine q1d (by exact picked_c _ _ (by assumption) (by simp)) ?_ | refine q1 (by exact some_c _ (by assumption)) ?_ | refine q1d (by exact some_c _ (by assumption)) ?_ | refine q1 (by exact cut_c _ _ (by simp)) ?_ | refine q1d (by exact cut_c _ _ (by simp)) ?_) | (with_reducible refine CallZ.z ?_) | simp -dsimp [go_sem, hk, e, cmd6])
  all_goals simp_all [cmdOf, cmdText, coeCs, coeC]
theorem command14_c (kind key field n : Int) (text : ByteArray) (h1 : i64 kind) (h2 : i64 key) (h3 : i64 field) (h4 : i64 n) (hk : pk kind 22 = 14) : PCall Tryz.prog G 87 [.agg [iC kind, iC key, iC field, iC n, sC text]] (.agg (cmdOf (1 + pk kind 22) key field n text)) := by
  rw [hk]
  refine pcallc mixed Tryz.func87 ac_rostrumkeep_Command ?_
  have e : IntKind.i64.wrap (1 + 14) = 1 + 14 := by rfl
  simp -dsimp [go_sem]
  refine awp_join ⟨[(1, .one (.ptr 0 0)), (2, .one (.ptr 1 0)), (3, .one (.ptr 2 0))], G, [some (.box 79 [iC kind, iC key, iC field, iC n, sC text]), some (.box 37 [iC 0, sC ⟨#[]⟩, sC ⟨#[]⟩, sC ⟨#[]⟩, iC 0]), some (.box 37 [iC (1 + 14), sC (someS key), sC ⟨#[]⟩, sC ⟨#[]⟩, iC 0])]⟩ ?_ ?_
  repeat' (first | (with_reducible first | refine Cn (fun h => ?_) fun h => ?_ | refine And.intro ?_ ?_ | refine wR ?_ | exact wr _ _ | refine wa ?_ | apply awp_join | refine q1 (by exact picked_c _ _ (by assumption) (by simp)) ?_ | refine q1d (by exact picked_c _ _ (by assumption) (by simp)) ?_ | refine q1 (by exact some_c _ (by assumption)) ?_ | refine q1d (by exact some_c _ (by assumption)) ?_ | refine q1 (by exact picked_c _ _ (by assumption) (by simp)) ?_ | refine q1d (by exact picked_c _ _ (by assumption) (by simp)) ?_ | refine q1 (by exact some_c _ (by assumption)) ?_ | refine q1d (by exact some_c _ (by assumption)) ?_ | refine q1 (by exact cut_c _ _ (by simp)) ?_ | refine q1d (by exact cut_c _ _ (by simp)) ?_) | (with_reducible refine CallZ.z ?_) | simp -dsimp [go_sem, hk, e, cmd6])
  all_goals simp_all [cmdOf, cmdText, coeCs, coeC]
theorem command15_c (kind key field n : Int) (text : ByteArray) (h1 : i64 kind) (h2 : i64 key) (h3 : i64 field) (h4 : i64 n) (hk : pk kind 22 = 15) : PCall Tryz.prog G 87 [.agg [iC kind, iC key, iC field, iC n, sC text]] (.agg (cmdOf (1 + pk kind 22) key field n text)) := by
  rw [hk]
  refine pcallc mixed Tryz.func87 ac_rostrumkeep_Command ?_
  have e : IntKind.i64.wrap (1 + 15) = 1 + 15 := by rfl
  simp -dsimp [go_sem]
  refine awp_join ⟨[(1, .one (.ptr 0 0)), (2, .one (.ptr 1 0)), (3, .one (.ptr 2 0))], G, [some (.box 79 [iC kind, iC key, iC field, iC n, sC text]), some (.box 37 [iC 0, sC ⟨#[]⟩, sC ⟨#[]⟩, sC ⟨#[]⟩, iC 0]), some (.box 37 [iC (1 + 15), sC (someS key), sC ⟨#[]⟩, sC ⟨#[]⟩, iC 0])]⟩ ?_ ?_
  repeat' (first | (with_reducible first | refine Cn (fun h => ?_) fun h => ?_ | refine And.intro ?_ ?_ | refine wR ?_ | exact wr _ _ | refine wa ?_ | apply awp_join | refine q1 (by exact picked_c _ _ (by assumption) (by simp)) ?_ | refine q1d (by exact picked_c _ _ (by assumption) (by simp)) ?_ | refine q1 (by exact some_c _ (by assumption)) ?_ | refine q1d (by exact some_c _ (by assumption)) ?_ | refine q1 (by exact picked_c _ _ (by assumption) (by simp)) ?_ | refine q1d (by exact picked_c _ _ (by assumption) (by simp)) ?_ | refine q1 (by exact some_c _ (by assumption)) ?_ | refine q1d (by exact some_c _ (by assumption)) ?_ | refine q1 (by exact cut_c _ _ (by simp)) ?_ | refine q1d (by exact cut_c _ _ (by simp)) ?_) | (with_reducible refine CallZ.z ?_) | simp -dsimp [go_sem, hk, e, cmd6])
  all_goals simp_all [cmdOf, cmdText, coeCs, coeC]
theorem command16_c (kind key field n : Int) (text : ByteArray) (h1 : i64 kind) (h2 : i64 key) (h3 : i64 field) (h4 : i64 n) (hk : pk kind 22 = 16) : PCall Tryz.prog G 87 [.agg [iC kind, iC key, iC field, iC n, sC text]] (.agg (cmdOf (1 + pk kind 22) key field n text)) := by
  rw [hk]
  refine pcallc mixed Tryz.func87 ac_rostrumkeep_Command ?_
  have e : IntKind.i64.wrap (1 + 16) = 1 + 16 := by rfl
  simp -dsimp [go_sem]
  refine awp_join ⟨[(1, .one (.ptr 0 0)), (2, .one (.ptr 1 0)), (3, .one (.ptr 2 0))], G, [some (.box 79 [iC kind, iC key, iC field, iC n, sC text]), some (.box 37 [iC 0, sC ⟨#[]⟩, sC ⟨#[]⟩, sC ⟨#[]⟩, iC 0]), some (.box 37 [iC (1 + 16), sC (someS key), sC ⟨#[]⟩, sC ⟨#[]⟩, iC 0])]⟩ ?_ ?_
  repeat' (first | (with_reducible first | refine Cn (fun h => ?_) fun h => ?_ | refine And.intro ?_ ?_ | refine wR ?_ | exact wr _ _ | refine wa ?_ | apply awp_join | refine q1 (by exact picked_c _ _ (by assumption) (by simp)) ?_ | refine q1d (by exact picked_c _ _ (by assumption) (by simp)) ?_ | refine q1 (by exact some_c _ (by assumption)) ?_ | refine q1d (by exact some_c _ (by assumption)) ?_ | refine q1 (by exact picked_c _ _ (by assumption) (by simp)) ?_ | refine q1d (by exact picked_c _ _ (by assumption) (by simp)) ?_ | refine q1 (by exact some_c _ (by assumption)) ?_ | refine q1d (by exact some_c _ (by assumption)) ?_ | refine q1 (by exact cut_c _ _ (by simp)) ?_ | refine q1d (by exact cut_c _ _ (by simp)) ?_) | (with_reducible refine CallZ.z ?_) | simp -dsimp [go_sem, hk, e, cmd6])
  all_goals simp_all [cmdOf, cmdText, coeCs, coeC]
theorem command17_c (kind key field n : Int) (text : ByteArray) (h1 : i64 kind) (h2 : i64 key) (h3 : i64 field) (h4 : i64 n) (hk : pk kind 22 = 17) : PCall Tryz.prog G 87 [.agg [iC kind, iC key, iC field, iC n, sC text]] (.agg (cmdOf (1 + pk kind 22) key field n text)) := by
  rw [hk]
  refine pcallc mixed Tryz.func87 ac_rostrumkeep_Command ?_
  have e : IntKind.i64.wrap (1 + 17) = 1 + 17 := by rfl
  simp -dsimp [go_sem]
  refine awp_join ⟨[(1, .one (.ptr 0 0)), (2, .one (.ptr 1 0)), (3, .one (.ptr 2 0))], G, [some (.box 79 [iC kind, iC key, iC field, iC n, sC text]), some (.box 37 [iC 0, sC ⟨#[]⟩, sC ⟨#[]⟩, sC ⟨#[]⟩, iC 0]), some (.box 37 [iC (1 + 17), sC (someS key), sC ⟨#[]⟩, sC ⟨#[]⟩, iC 0])]⟩ ?_ ?_
  repeat' (first | (with_reducible first | refine Cn (fun h => ?_) fun h => ?_ | refine And.intro ?_ ?_ | refine wR ?_ | exact wr _ _ | refine wa ?_ | apply awp_join | refine q1 (by exact picked_c _ _ (by assumption) (by simp)) ?_ | refine q1d (by exact picked_c _ _ (by assumption) (by simp)) ?_ | refine q1 (by exact some_c _ (by assumption)) ?_ | refine q1d (by exact some_c _ (by assumption)) ?_ | refine q1 (by exact picked_c _ _ (by assumption) (by simp)) ?_ | refine q1d (by exact picked_c _ _ (by assumption) (by simp)) ?_ | refine q1 (by exact some_c _ (by assumption)) ?_ | refine q1d (by exact some_c _ (by assumption)) ?_ | refine q1 (by exact cut_c _ _ (by simp)) ?_ | refine q1d (by exact cut_c _ _ (by simp)) ?_) | (with_reducible refine CallZ.z ?_) | simp -dsimp [go_sem, hk, e, cmd6])
  all_goals simp_all [cmdOf, cmdText, coeCs, coeC]
theorem command18_c (kind key field n : Int) (text : ByteArray) (h1 : i64 kind) (h2 : i64 key) (h3 : i64 field) (h4 : i64 n) (hk : pk kind 22 = 18) : PCall Tryz.prog G 87 [.agg [iC kind, iC key, iC field, iC n, sC text]] (.agg (cmdOf (1 + pk kind 22) key field n text)) := by
  rw [hk]
  refine pcallc mixed Tryz.func87 ac_rostrumkeep_Command ?_
  have e : IntKind.i64.wrap (1 + 18) = 1 + 18 := by rfl
  simp -dsimp [go_sem]
  refine awp_join ⟨[(1, .one (.ptr 0 0)), (2, .one (.ptr 1 0)), (3, .one (.ptr 2 0))], G, [some (.box 79 [iC kind, iC key, iC field, iC n, sC text]), some (.box 37 [iC 0, sC ⟨#[]⟩, sC ⟨#[]⟩, sC ⟨#[]⟩, iC 0]), some (.box 37 [iC (1 + 18), sC (someS key), sC ⟨#[]⟩, sC ⟨#[]⟩, iC 0])]⟩ ?_ ?_
  repeat' (first | (with_reducible first | refine Cn (fun h => ?_) fun h => ?_ | refine And.intro ?_ ?_ | refine wR ?_ | exact wr _ _ | refine wa ?_ | apply awp_join | refine q1 (by exact picked_c _ _ (by assumption) (by simp)) ?_ | refine q1d (by exact picked_c _ _ (by assumption) (by simp)) ?_ | refine q1 (by exact some_c _ (by assumption)) ?_ | refine q1d (by exact some_c _ (by assumption)) ?_ | refine q1 (by exact picked_c _ _ (by assumption) (by simp)) ?_ | refine q1d (by exact picked_c _ _ (by assumption) (by simp)) ?_ | refine q1 (by exact some_c _ (by assumption)) ?_ | refine q1d (by exact some_c _ (by assumption)) ?_ | refine q1 (by exact cut_c _ _ (by simp)) ?_ | refine q1d (by exact cut_c _ _ (by simp)) ?_) | (with_reducible refine CallZ.z ?_) | simp -dsimp [go_sem, hk, e, cmd6])
  all_goals simp_all [cmdOf, cmdText, coeCs, coeC]
theorem command19_c (kind key field n : Int) (text : ByteArray) (h1 : i64 kind) (h2 : i64 key) (h3 : i64 field) (h4 : i64 n) (hk : pk kind 22 = 19) : PCall Tryz.prog G 87 [.agg [iC kind, iC key, iC field, iC n, sC text]] (.agg (cmdOf (1 + pk kind 22) key field n text)) := by
  rw [hk]
  refine pcallc mixed Tryz.func87 ac_rostrumkeep_Command ?_
  have e : IntKind.i64.wrap (1 + 19) = 1 + 19 := by rfl
  simp -dsimp [go_sem]
  refine awp_join ⟨[(1, .one (.ptr 0 0)), (2, .one (.ptr 1 0)), (3, .one (.ptr 2 0))], G, [some (.box 79 [iC kind, iC key, iC field, iC n, sC text]), some (.box 37 [iC 0, sC ⟨#[]⟩, sC ⟨#[]⟩, sC ⟨#[]⟩, iC 0]), some (.box 37 [iC (1 + 19), sC (someS key), sC ⟨#[]⟩, sC ⟨#[]⟩, iC 0])]⟩ ?_ ?_
  repeat' (first | (with_reducible first | refine Cn (fun h => ?_) fun h => ?_ | refine And.intro ?_ ?_ | refine wR ?_ | exact wr _ _ | refine wa ?_ | apply awp_join | refine q1 (by exact picked_c _ _ (by assumption) (by simp)) ?_ | refine q1d (by exact picked_c _ _ (by assumption) (by simp)) ?_ | refine q1 (by exact some_c _ (by assumption)) ?_ | refine q1d (by exact some_c _ (by assumption)) ?_ | refine q1 (by exact picked_c _ _ (by assumption) (by simp)) ?_ | refine q1d (by exact picked_c _ _ (by assumption) (by simp)) ?_ | refine q1 (by exact some_c _ (by assumption)) ?_ | refine q1d (by exact some_c _ (by assumption)) ?_ | refine q1 (by exact cut_c _ _ (by simp)) ?_ | refine q1d (by exact cut_c _ _ (by simp)) ?_) | (with_reducible refine CallZ.z ?_) | simp -dsimp [go_sem, hk, e, cmd6])
  all_goals simp_all [cmdOf, cmdText, coeCs, coeC]
theorem command20_c (kind key field n : Int) (text : ByteArray) (h1 : i64 kind) (h2 : i64 key) (h3 : i64 field) (h4 : i64 n) (hk : pk kind 22 = 20) : PCall Tryz.prog G 87 [.agg [iC kind, iC key, iC field, iC n, sC text]] (.agg (cmdOf (1 + pk kind 22) key field n text)) := by
  rw [hk]
  refine pcallc mixed Tryz.func87 ac_rostrumkeep_Command ?_
  have e : IntKind.i64.wrap (1 + 20) = 1 + 20 := by rfl
  simp -dsimp [go_sem]
  refine awp_join ⟨[(1, .one (.ptr 0 0)), (2, .one (.ptr 1 0)), (3, .one (.ptr 2 0))], G, [some (.box 79 [iC kind, iC key, iC field, iC n, sC text]), some (.box 37 [iC 0, sC ⟨#[]⟩, sC ⟨#[]⟩, sC ⟨#[]⟩, iC 0]), some (.box 37 [iC (1 + 20), sC (someS key), sC ⟨#[]⟩, sC ⟨#[]⟩, iC 0])]⟩ ?_ ?_
  repeat' (first | (with_reducible first | refine Cn (fun h => ?_) fun h => ?_ | refine And.intro ?_ ?_ | refine wR ?_ | exact wr _ _ | refine wa ?_ | apply awp_join | refine q1 (by exact picked_c _ _ (by assumption) (by simp)) ?_ | refine q1d (by exact picked_c _ _ (by assumption) (by simp)) ?_ | refine q1 (by exact some_c _ (by assumption)) ?_ | refine q1d (by exact some_c _ (by assumption)) ?_ | refine q1 (by exact picked_c _ _ (by assumption) (by simp)) ?_ | refine q1d (by exact picked_c _ _ (by assumption) (by simp)) ?_ | refine q1 (by exact some_c _ (by assumption)) ?_ | refine q1d (by exact some_c _ (by assumption)) ?_ | refine q1 (by exact cut_c _ _ (by simp)) ?_ | refine q1d (by exact cut_c _ _ (by simp)) ?_) | (with_reducible refine CallZ.z ?_) | simp -dsimp [go_sem, hk, e, cmd6])
  all_goals simp_all [cmdOf, cmdText, coeCs, coeC]
theorem command21_c (kind key field n : Int) (text : ByteArray) (h1 : i64 kind) (h2 : i64 key) (h3 : i64 field) (h4 : i64 n) (hk : pk kind 22 = 21) : PCall Tryz.prog G 87 [.agg [iC kind, iC key, iC field, iC n, sC text]] (.agg (cmdOf (1 + pk kind 22) key field n text)) := by
  rw [hk]
  refine pcallc mixed Tryz.func87 ac_rostrumkeep_Command ?_
  have e : IntKind.i64.wrap (1 + 21) = 1 + 21 := by rfl
  simp -dsimp [go_sem]
  refine awp_join ⟨[(1, .one (.ptr 0 0)), (2, .one (.ptr 1 0)), (3, .one (.ptr 2 0))], G, [some (.box 79 [iC kind, iC key, iC field, iC n, sC text]), some (.box 37 [iC 0, sC ⟨#[]⟩, sC ⟨#[]⟩, sC ⟨#[]⟩, iC 0]), some (.box 37 [iC (1 + 21), sC (someS key), sC ⟨#[]⟩, sC ⟨#[]⟩, iC 0])]⟩ ?_ ?_
  repeat' (first | (with_reducible first | refine Cn (fun h => ?_) fun h => ?_ | refine And.intro ?_ ?_ | refine wR ?_ | exact wr _ _ | refine wa ?_ | apply awp_join | refine q1 (by exact picked_c _ _ (by assumption) (by simp)) ?_ | refine q1d (by exact picked_c _ _ (by assumption) (by simp)) ?_ | refine q1 (by exact some_c _ (by assumption)) ?_ | refine q1d (by exact some_c _ (by assumption)) ?_ | refine q1 (by exact picked_c _ _ (by assumption) (by simp)) ?_ | refine q1d (by exact picked_c _ _ (by assumption) (by simp)) ?_ | refine q1 (by exact some_c _ (by assumption)) ?_ | refine q1d (by exact some_c _ (by assumption)) ?_ | refine q1 (by exact cut_c _ _ (by simp)) ?_ | refine q1d (by exact cut_c _ _ (by simp)) ?_) | (with_reducible refine CallZ.z ?_) | simp -dsimp [go_sem, hk, e, cmd6])
  all_goals simp_all [cmdOf, cmdText, coeCs, coeC]
theorem command_c (kind key field n : Int) (text : ByteArray) (h1 : i64 kind) (h2 : i64 key) (h3 : i64 field) (h4 : i64 n) : PCall Tryz.prog G 87 [.agg [iC kind, iC key, iC field, iC n, sC text]] (.agg (cmdOf (1 + pk kind 22) key field n text)) := by
  have hr := pk_range (n := kind) (m := 22) (by omega)
  have hk : pk kind 22 = 0 ∨ pk kind 22 = 1 ∨ pk kind 22 = 2 ∨ pk kind 22 = 3 ∨ pk kind 22 = 4 ∨ pk kind 22 = 5 ∨ pk kind 22 = 6 ∨ pk kind 22 = 7 ∨ pk kind 22 = 8 ∨ pk kind 22 = 9 ∨ pk kind 22 = 10 ∨ pk kind 22 = 11 ∨ pk kind 22 = 12 ∨ pk kind 22 = 13 ∨ pk kind 22 = 14 ∨ pk kind 22 = 15 ∨ pk kind 22 = 16 ∨ pk kind 22 = 17 ∨ pk kind 22 = 18 ∨ pk kind 22 = 19 ∨ pk kind 22 = 20 ∨ pk kind 22 = 21 := by omega
  rcases hk with hk | hk | hk | hk | hk | hk | hk | hk | hk | hk | hk | hk | hk | hk | hk | hk | hk | hk | hk | hk | hk | hk
  · exact command0_c kind key field n text h1 h2 h3 h4 hk
  · exact command1_c kind key field n text h1 h2 h3 h4 hk
  · exact command2_c kind key field n text h1 h2 h3 h4 hk
  · exact command3_c kind key field n text h1 h2 h3 h4 hk
  · exact command4_c kind key field n text h1 h2 h3 h4 hk
  · exact command5_c kind key field n text h1 h2 h3 h4 hk
  · exact command6_c kind key field n text h1 h2 h3 h4 hk
  · exact command7_c kind key field n text h1 h2 h3 h4 hk
  · exact command8_c kind key field n text h1 h2 h3 h4 hk
  · exact command9_c kind key field n text h1 h2 h3 h4 hk
  · exact command10_c kind key field n text h1 h2 h3 h4 hk
  · exact command11_c kind key field n text h1 h2 h3 h4 hk
  · exact command12_c kind key field n text h1 h2 h3 h4 hk
  · exact command13_c kind key field n text h1 h2 h3 h4 hk
  · exact command14_c kind key field n text h1 h2 h3 h4 hk
  · exact command15_c kind key field n text h1 h2 h3 h4 hk
  · exact command16_c kind key field n text h1 h2 h3 h4 hk
  · exact command17_c kind key field n text h1 h2 h3 h4 hk
  · exact command18_c kind key field n text h1 h2 h3 h4 hk
  · exact command19_c kind key field n text h1 h2 h3 h4 hk
  · exact command20_c kind key field n text h1 h2 h3 h4 hk
  · exact command21_c kind key field n text h1 h2 h3 h4 hk
end Go.Proofs.YtpdcfljbabpakaaGreatDoor
set_option linter.unusedVariables false
set_option linter.unusedSimpArgs false
set_option maxRecDepth 100000
set_option maxHeartbeats 8000000
namespace Go.Proofs.YtpdcfljbabpakaaGreatDoor
open Go Go.RowKit Go.Proofs.AE
variable {G : Nat → AV}
def checkCall (client seq k : Int) (key field text : ByteArray) (n : Int) : Int :=
  if decide (client = 0) then (if (seq == 0 && (k == 0 && (decide (key = ⟨#[]⟩) && (decide (field = ⟨#[]⟩) && (decide (text = ⟨#[]⟩) && n == 0))))) then 0 else 8)
  else if okNumber client then (if okNumber seq then checkCommand k key field text n else 2) else 2
theorem checkCall_c (client seq k : Int) (key field text : ByteArray) (n : Int) : PCall Tryz.prog G 79 [.agg [iC client, iC seq, iC k, sC key, sC field, sC text, iC n]] (iV (checkCall client seq k key field text n)) := by
  refine pcallc mixed Tryz.func79 ac_client_CheckCall ?_
  repeat' (first | (with_reducible first | refine Cn (fun h => ?_) fun h => ?_ | refine And.intro ?_ ?_ | refine wR ?_ | exact wr _ _ | refine wa ?_ | apply awp_join | refine q (number_c _) ?_ | refine qd (number_c _) ?_ | refine qz (number_c _) ?_ | refine q (check_c _ _ _ _ _) ?_ | refine qd (check_c _ _ _ _ _) ?_ | refine qz (check_c _ _ _ _ _) ?_) | (with_reducible refine CallZ.z ?_) | simp -dsimp [go_sem])
  all_goals simp_all [checkCall]
  all_goals (intros; simp_all)
theorem cmd_ok (kind key field n : Int) (text : ByteArray) (h4 : i64 n) : ∀ k a b c m, cmdOf (1 + pk kind 22) key field n text = [iC k, sC a, sC b, sC c, iC m] → checkCommand k a b c m = 0 := by
  intro k a b c m h
  have hr := pk_range (n := kind) (m := 22) (by omega)
  have h60 := pk_range (n := n) (m := 60) (by omega)
  have h12 := pk_range (n := n) (m := 12) (by omega)
  have hs : ∀ x, okField (someS x) = true := fun x => rfl
  have hst : ∀ x, okText (someS x) = true := fun x => rfl
  have hc : okText (cmdText n text) = true := by
    unfold cmdText
    split
    · rfl
    · have := cutS_size text (n := 6) (by omega)
      simp only [okText, decide_eq_true_eq]
      omega
  have he : okText ⟨#[]⟩ = true := rfl
  have hn : okCount (n.tmod 1073741824) = true := by
    have h1 := Int.tmod_lt_of_pos n (b := 1073741824) (by omega)
    have h2 : -1073741824 < n.tmod 1073741824 := by
      rcases Int.le_total 0 n with h | h
      · have := Int.tmod_nonneg 1073741824 h; omega
      · have h3 := Int.tmod_lt_of_pos (-n) (b := 1073741824) (by omega)
        rw [Int.neg_tmod] at h3
        omega
    simp only [okCount, Bool.and_eq_true, decide_eq_true_eq]
    omega
  have hn0 : okCount 0 = true := rfl
  have hn1 : okCount (pk n 60) = true := by simp only [okCount, Bool.and_eq_true, decide_eq_true_eq]; omega
  have hn2 : okCount (pk n 12 - 6) = true := by simp only [okCount, Bool.and_eq_true, decide_eq_true_eq]; omega
  simp only [cmdOf, List.cons.injEq, C.v.injEq, V.lit.injEq, Value.int.injEq, Value.string.injEq, and_true, true_and] at h
  obtain ⟨rfl, rfl, rfl, rfl, rfl⟩ := h
  have hk : pk kind 22 = 0 ∨ pk kind 22 = 1 ∨ pk kind 22 = 2 ∨ pk kind 22 = 3 ∨ pk kind 22 = 4 ∨ pk kind 22 = 5 ∨ pk kind 22 = 6 ∨ pk kind 22 = 7 ∨ pk kind 22 = 8 ∨ pk kind 22 = 9 ∨ pk kind 22 = 10 ∨ pk kind 22 = 11 ∨ pk kind 22 = 12 ∨ pk kind 22 = 13 ∨ pk kind 22 = 14 ∨ pk kind 22 = 15 ∨ pk kind 22 = 16 ∨ pk kind 22 = 17 ∨ pk kind 22 = 18 ∨ pk kind 22 = 19 ∨ pk kind 22 = 20 ∨ pk kind 22 = 21 := by omega
  rcases hk with hk | hk | hk | hk | hk | hk | hk | hk | hk | hk | hk | hk | hk | hk | hk | hk | hk | hk | hk | hk | hk | hk
  all_goals simp [hk, checkCommand, formOk, hs, hst, hc, he, hn, hn0, hn1, hn2]
theorem nodup_le {α : Type} [DecidableEq α] : ∀ (l m : List α), l.Pairwise (· ≠ ·) → (∀ x ∈ l, x ∈ m) → l.length ≤ m.length
  | [], m, _, _ => Nat.zero_le _
  | x :: l, m, h, hm => by
    obtain ⟨h1, h2⟩ := List.pairwise_cons.1 h
    have hx := hm x (List.mem_cons_self ..)
    have := nodup_le l (m.erase x) h2 fun y hy => (List.mem_erase_of_ne fun e => h1 y hy e.symm).2 (hm y (List.mem_cons_of_mem _ hy))
    have hl := List.length_erase_of_mem hx
    have hp := List.length_pos_of_mem hx
    simp only [List.length_cons]; omega
def nine : List ByteArray := (List.range 9).map fun i => ⟨#[UInt8.ofNat (97 + i)]⟩
end Go.Proofs.YtpdcfljbabpakaaGreatDoor
set_option linter.unusedVariables false
set_option linter.unusedSimpArgs false
set_option maxRecDepth 100000
set_option maxHeartbeats 8000000
namespace Go.Proofs.YtpdcfljbabpakaaGreatDoor
open Go Go.RowKit Go.Proofs.AE
theorem wf_i64 {n : Int} (h : (Lit.int .i64 n).wf = true) : i64 n := by
  rw [Lit.wf] at h
  simp only [Bool.and_eq_true, decide_eq_true_eq] at h
  exact h
theorem raw_wt {vs : List V} (h : WT Tryz.prog 3 79 vs) : ∃ (kind key field n : Int) (text : ByteArray), vs = [.lit (.int .i64 kind), .lit (.int .i64 key), .lit (.int .i64 field), .lit (.int .i64 n), .lit (.string text)] ∧
    i64 kind ∧ i64 key ∧ i64 field ∧ i64 n ∧ text.size ≤ maxLen := by
  simp [WT, ti79, ti3, ti9] at h
  obtain ⟨hl, ⟨a, ha, wa⟩, ⟨b, hb, wb⟩, ⟨c, hc, wc⟩, ⟨d, hd, wd⟩, ⟨s, he, we⟩⟩ := h
  match vs, hl with
  | [v0, v1, v2, v3, v4], _ =>
    simp at ha hb hc hd he
    subst ha hb hc hd he
    exact ⟨a, b, c, d, s, rfl, wf_i64 wa, wf_i64 wb, wf_i64 wc, wf_i64 wd, we⟩
theorem deed_wt {vs : List V} (h : WT Tryz.prog 4 81 vs) : ∃ (client off wait kind key field n : Int) (text : ByteArray), vs = [.lit (.int .i64 client), .lit (.int .i64 off), .lit (.int .i64 wait), .lit (.int .i64 kind), .lit (.int .i64 key), .lit (.int .i64 field), .lit (.int .i64 n), .lit (.string text)] ∧
    i64 client ∧ i64 off ∧ i64 wait ∧ i64 kind ∧ i64 key ∧ i64 field ∧ i64 n ∧ text.size ≤ maxLen := by
  obtain ⟨hl, hf⟩ := WT_struct ti81 rfl h
  obtain ⟨j0, e0, r0⟩ := hf (3, 0) (by simp)
  obtain ⟨j1, e1, r1⟩ := hf (3, 1) (by simp)
  obtain ⟨j2, e2, r2⟩ := hf (3, 2) (by simp)
  obtain ⟨j3, e3, r3⟩ := hf (79, 3) (by simp)
  rw [ti3] at e0 e1 e2
  rw [ti79] at e3
  cases e0; cases e1; cases e2; cases e3
  obtain ⟨a, b, c, d, s, q, k1, k2, k3, k4, k5⟩ := raw_wt r3
  simp [WT, ti3] at r0 r1 r2
  obtain ⟨x, hx, wx⟩ := r0
  obtain ⟨y, hy, wy⟩ := r1
  obtain ⟨z, hz, wz⟩ := r2
  match vs, hl with
  | [v0, v1, v2, v3, v4, v5, v6, v7], _ =>
    simp at hx hy hz q
    obtain ⟨rfl, rfl, rfl, rfl, rfl⟩ := q
    subst hx hy hz
    exact ⟨x, y, z, a, b, c, d, s, rfl, wf_i64 wx, wf_i64 wy, wf_i64 wz, k1, k2, k3, k4, k5⟩
structure Deed where
  client : Int
  off : Int
  wait : Int
  kind : Int
  key : Int
  field : Int
  n : Int
  text : ByteArray
abbrev iL (n : Int) : V := .lit (.int .i64 n)
abbrev sL (s : ByteArray) : V := .lit (.string s)
def Deed.row (d : Deed) : List V := [iL d.client, iL d.off, iL d.wait, iL d.kind, iL d.key, iL d.field, iL d.n, sL d.text]
structure Deed.Ok (d : Deed) : Prop where
  client : i64 d.client
  off : i64 d.off
  wait : i64 d.wait
  kind : i64 d.kind
  key : i64 d.key
  field : i64 d.field
  n : i64 d.n
theorem deeds_of : ∀ (rows : List (List V)), (∀ r ∈ rows, WT Tryz.prog 4 81 r) → ∃ ds : List Deed, rows = ds.map Deed.row ∧ ∀ d ∈ ds, d.Ok
  | [], _ => ⟨[], rfl, fun d h => by cases h⟩
  | r :: rows, h => by
    obtain ⟨ds, h1, h2⟩ := deeds_of rows fun r hr => h r (List.mem_cons_of_mem _ hr)
    obtain ⟨client, off, wait, kind, key, field, n, text, rfl, a, b, c, d, e, f, g, _⟩ := deed_wt (h r (List.mem_cons_self ..))
    refine ⟨⟨client, off, wait, kind, key, field, n, text⟩ :: ds, by rw [h1]; rfl, fun x hx => ?_⟩
    rcases List.mem_cons.1 hx with rfl | hx
    · exact ⟨a, b, c, d, e, f, g⟩
    · exact h2 x hx
end Go.Proofs.YtpdcfljbabpakaaGreatDoor
set_option linter.unusedVariables false
set_option linter.unusedSimpArgs false
set_option maxRecDepth 100000
set_option maxHeartbeats 8000000
namespace Go.Proofs.YtpdcfljbabpakaaGreatDoor
open Go Go.RowKit Go.Proofs.AE
variable {G : Nat → AV}
theorem DoEnd_vk {v : Val} {q : Val × Rep} (hv : Vk v) (hq : q.2.code = 0 → OkB q.1) : (DoEnd v q).2.2 = 0 ∧ Vk (DoEnd v q).1 := by
  unfold DoEnd
  by_cases h : q.2.code ≠ 0
  · rw [if_pos h]; exact ⟨rfl, hv⟩
  · rw [if_neg h]
    have h0 : q.2.code = 0 := Classical.not_not.1 h
    by_cases h2 : 3 ≤ q.1.kind ∧ q.1.els = 0
    · rw [if_pos h2]; exact ⟨rfl, .inr rfl⟩
    · rw [if_neg h2]; exact ⟨rfl, .inl ((hq h0).ok h2)⟩
theorem kindOf_zero {k : Int} (h1 : 1 ≤ k) (h2 : k ≤ 16) (h : k ≠ 1) : kindOfC k ≠ 0 := by
  unfold kindOfC
  repeat' split
  all_goals omega
theorem DoV_vk {v : Val} {c : Cmd} (h : Vk v) (hc : checkC c = 0) (hk : c.kind ≤ 18) : (DoV v c).2.2 = 0 ∧ Vk (DoV v c).1 := by
  have hk1 := checkC_kind hc
  rcases h with h | h
  · have hv := checkV_iff.2 h
    by_cases hm : (kindOfC c.kind ≠ 0 ∧ kindOfC c.kind ≠ v.kind) ∨ (17 ≤ c.kind ∧ v.kind < 3)
    · rw [DoV_type hv hc hk hm]; exact ⟨rfl, .inl h⟩
    · rw [DoV_go hv hc hk hm]
      refine DoEnd_vk (.inl h) fun h0 => ?_
      by_cases h17 : 17 ≤ c.kind
      · have hk2 : c.kind = 17 ∨ c.kind = 18 := by omega
        rcases hk2 with e | e <;> (unfold doV; simp [e]; exact h.b)
      · refine doV_ok h.b hc (by omega) ?_ h0
        by_cases e : c.kind = 1
        · exact .inl e
        · have := kindOf_zero hk1 (by omega) e
          refine .inr ?_
          simp only [not_or, not_and, Classical.not_not] at hm
          exact hm.1 this
  · subst h
    rw [DoV_zero hc hk]
    cases hmk : makesC c.kind with
    | false => exact ⟨rfl, .inr rfl⟩
    | true =>
      simp only [if_true]
      have hk2 : c.kind ≤ 14 := by
        unfold makesC at hmk
        simp at hmk
        omega
      refine DoEnd_vk (.inr rfl) fun h0 => ?_
      by_cases e : c.kind = 1
      · have hd : doV ⟨kindOfC c.kind, ⟨#[]⟩, 0, [], [], []⟩ c = doV ⟨1, ⟨#[]⟩, 0, [], [], []⟩ c := by unfold doV; rw [if_pos e, if_pos e]
        rw [hd] at h0 ⊢
        exact doV_ok (fresh_b (by omega) (by omega)) hc (by omega) (.inl e) h0
      · have hne := kindOf_zero hk1 (by omega) e
        have hr : 1 ≤ kindOfC c.kind ∧ kindOfC c.kind ≤ 6 := by
          unfold kindOfC at hne ⊢
          repeat' split
          all_goals simp_all
        exact doV_ok (fresh_b hr.1 hr.2) hc (by omega) (.inr rfl) h0
structure Raw where
  kind : Int
  key : Int
  field : Int
  n : Int
  text : ByteArray
def Raw.row (r : Raw) : List V := [.lit (.int .i64 r.kind), .lit (.int .i64 r.key), .lit (.int .i64 r.field), .lit (.int .i64 r.n), .lit (.string r.text)]
structure Raw.Ok (r : Raw) : Prop where
  kind : i64 r.kind
  key : i64 r.key
  field : i64 r.field
  n : i64 r.n
def cmdK (k : Int) (r : Raw) : Cmd :=
  ⟨k, if k = 22 then ⟨#[]⟩ else someS r.key, if k = 4 ∨ k = 5 ∨ k = 6 then someS r.field else ⟨#[]⟩,
   if k = 1 ∨ k = 4 ∨ k = 7 ∨ k = 8 ∨ k = 11 ∨ k = 12 ∨ k = 13 ∨ k = 14 ∨ k = 15 ∨ k = 16 then cmdText r.n r.text else ⟨#[]⟩,
   if k = 3 then r.n.tmod 1073741824 else if k = 20 then pk r.n 60 else if k = 14 then pk r.n 12 - 6 else 0⟩
def cmdR (r : Raw) : Cmd := cmdK (1 + pk r.kind 22) r
theorem cmdR_ok {r : Raw} (h : r.Ok) : checkC (cmdR r) = 0 := cmd_ok r.kind r.key r.field r.n r.text h.n _ _ _ _ _ rfl
theorem commandR_c (r : Raw) (h : r.Ok) : PCall Tryz.prog G 87 [.agg [iC r.kind, iC r.key, iC r.field, iC r.n, sC r.text]] (.agg (cmdR r).c) := command_c r.kind r.key r.field r.n r.text h.kind h.key h.field h.n
end Go.Proofs.YtpdcfljbabpakaaGreatDoor
set_option linter.unusedVariables false
set_option linter.unusedSimpArgs false
set_option maxRecDepth 100000
set_option maxHeartbeats 8000000
namespace Go.Proofs.YtpdcfljbabpakaaGreatDoor
open Go Go.RowKit Go.Proofs.AE
variable {G : Nat → AV}
instance : DecidableEq Val := fun a b => decidable_of_iff (a.kind = b.kind ∧ a.text = b.text ∧ a.count = b.count ∧ a.pairs = b.pairs ∧ a.items = b.items ∧ a.scores = b.scores) (by
  cases a; cases b; simp)
end Go.Proofs.YtpdcfljbabpakaaGreatDoor
set_option linter.unusedVariables false
set_option linter.unusedSimpArgs false
set_option maxRecDepth 100000
set_option maxHeartbeats 8000000
namespace Go.Proofs.YtpdcfljbabpakaaGreatDoor
open Go Go.RowKit Go.Proofs.AE
variable {G : Nat → AV}
structure Ent where
  key : ByteArray
  val : Val
  till : Int
structure Sto where
  now : Int
  ents : List Ent
def Val.v (v : Val) : List V := [.lit (.int .i64 v.kind), .lit (.string v.text), .lit (.int .i64 v.count), .sl (pR v.pairs), .sl (strRows v.items), .sl (sR v.scores)]
def Ent.row (e : Ent) : List V := [.lit (.string e.key), .lit (.int .i64 e.val.kind), .lit (.string e.val.text), .lit (.int .i64 e.val.count), .sl (pR e.val.pairs), .sl (strRows e.val.items), .sl (sR e.val.scores), .lit (.int .i64 e.till)]
def Ent.c (e : Ent) : List C := [sC e.key, iC e.val.kind, sC e.val.text, iC e.val.count, .v (.sl (pR e.val.pairs)), .v (.sl (strRows e.val.items)), .v (.sl (sR e.val.scores)), iC e.till]
abbrev eR (l : List Ent) : List (List V) := l.map Ent.row
def Sto.c (s : Sto) : List C := [iC s.now, .v (.sl (eR s.ents))]
theorem ul_e (l : List Ent) : UL 8 (eR l) := by
  intro r hr
  obtain ⟨y, _, rfl⟩ := List.mem_map.1 hr
  rfl
def Sto.Small (s : Sto) : Prop := s.ents.length ≤ 1000 ∧ ∀ e ∈ s.ents, e.val.Small
def entBad (now : Int) (e : Ent) : Bool := !okField e.key || checkV e.val != 0 || (e.till != 0 && (decide (e.till ≤ now) || decide (1073741824 < e.till)))
def bE (a b : Ent) : Int := cmpB a.key b.key
def checkS (s : Sto) : Int :=
  if s.now < 0 ∨ 1073741824 < s.now ∨ 12 < s.ents.length then 13
  else if s.ents.any (entBad s.now) = true then 13
  else if rising bE s.ents = true then 0 else 13
def goneE (now : Int) (e : Ent) : Bool := e.till != 0 && decide (e.till ≤ now)
def findE (l : List Ent) (k : ByteArray) : Nat := plc (fun e => decide (cmpB e.key k < 0)) l
def inE (l : List Ent) (k : ByteArray) : Bool := match l[findE l k]? with | some e => cmpB e.key k == 0 | none => false
def setE (l : List Ent) (c : Cmd) (v : Val) : List Ent :=
  match (if inE l c.key then l[findE l c.key]? else none) with
  | some e => l.set (findE l c.key) ⟨e.key, v, if c.kind = 1 then 0 else e.till⟩
  | none => insAt l (findE l c.key) ⟨c.key, v, 0⟩
def timedE (now : Int) (l : List Ent) (c : Cmd) : List Ent × Rep :=
  match (if inE l c.key then l[findE l c.key]? else none) with
  | none => (l, failR 5)
  | some e =>
    if c.kind = 21 then (l, toldR (if e.till - now < 0 then 0 else e.till - now))
    else if c.n < 1 ∨ 1073741824 - now < c.n then (l, failR 2)
    else (l.set (findE l c.key) ⟨e.key, e.val, now + c.n⟩, toldR 0)
def oldV (l : List Ent) (c : Cmd) : Val := match (if inE l c.key then l[findE l c.key]? else none) with | some e => e.val | none => zeroV
def valE (l : List Ent) (c : Cmd) : List Ent × Rep :=
  if (DoV (oldV l c) c).2.1.code ≠ 0 then (l, (DoV (oldV l c) c).2.1)
  else if (DoV (oldV l c) c).1.kind = 0 ∧ inE l c.key = true then (delAt l (findE l c.key), (DoV (oldV l c) c).2.1)
  else if inE l c.key = false ∧ l.length = 12 then (l, failR 6)
  else if (DoV (oldV l c) c).1.kind ≠ 0 then (setE l c (DoV (oldV l c) c).1, (DoV (oldV l c) c).2.1)
  else (l, (DoV (oldV l c) c).2.1)
def doE (now : Int) (l : List Ent) (c : Cmd) : List Ent × Rep :=
  if c.kind = 22 then (l, ⟨0, ⟨#[]⟩, 0, l.map Ent.key⟩)
  else if c.kind = 19 then (if inE l c.key then (delAt l (findE l c.key), toldR 1) else (l, toldR 0))
  else if c.kind = 20 ∨ c.kind = 21 then timedE now l c
  else valE l c
def zeroS : Sto := ⟨0, []⟩
def maxI (a b : Int) : Int := if b < a then a else b
def ApplyS (s : Sto) (time : Int) (c : Cmd) : Sto × Rep × Int :=
  if checkS s ≠ 0 then (zeroS, toldR 0, checkS s)
  else if time < 0 ∨ 1073741824 < time then (zeroS, toldR 0, 2)
  else if checkC c ≠ 0 then (zeroS, toldR 0, checkC c)
  else (⟨maxI s.now time, (doE (maxI s.now time) (s.ents.filter fun e => !goneE (maxI s.now time) e) c).1⟩, (doE (maxI s.now time) (s.ents.filter fun e => !goneE (maxI s.now time) e) c).2, 0)
structure OkE (now : Int) (e : Ent) : Prop where
  key : okField e.key = true
  val : OkV e.val
  till : e.till = 0 ∨ now < e.till ∧ e.till ≤ 1073741824
theorem entBad_iff {now : Int} {e : Ent} : entBad now e = false ↔ OkE now e := by
  unfold entBad
  constructor
  · intro h
    simp only [Bool.or_eq_false_iff, Bool.not_eq_false', bne_eq_false_iff_eq, Bool.and_eq_false_iff, decide_eq_false_iff_not] at h
    exact ⟨h.1.1, checkV_iff.1 h.1.2, by rcases h.2 with h | h; exact .inl h; exact .inr (by omega)⟩
  · rintro ⟨h1, h2, h3⟩
    simp only [Bool.or_eq_false_iff, Bool.not_eq_false', bne_eq_false_iff_eq, Bool.and_eq_false_iff, decide_eq_false_iff_not]
    exact ⟨⟨h1, checkV_iff.2 h2⟩, by rcases h3 with h | h; exact .inl h; exact .inr (by omega)⟩
def Rise (l : List Ent) : Prop := l.Pairwise (fun a b => cmpB a.key b.key < 0)
structure OkS (s : Sto) : Prop where
  now : 0 ≤ s.now ∧ s.now ≤ 1073741824
  len : s.ents.length ≤ 12
  all : ∀ e ∈ s.ents, OkE s.now e
  rise : Rise s.ents
theorem bE_tr : ∀ a b c : Ent, bE a b < 0 → bE b c < 0 → bE a c < 0 := fun a b c h1 h2 => cmpB_tr _ _ _ h1 h2
theorem checkS_iff {s : Sto} : checkS s = 0 ↔ OkS s := by
  unfold checkS
  constructor
  · intro h
    split at h
    · cases h
    · rename_i h1
      split at h
      · cases h
      · rename_i h2
        split at h
        · rename_i h3
          refine ⟨by omega, by omega, fun e he => entBad_iff.1 ?_, (rising_iff bE_tr).1 h3⟩
          cases hb : entBad s.now e with
          | false => rfl
          | true => exact absurd (List.any_eq_true.2 ⟨e, he, hb⟩) h2
        · cases h
  · rintro ⟨h1, h2, h3, h4⟩
    rw [if_neg (by omega), if_neg, if_pos ((rising_iff bE_tr).2 h4)]
    intro h
    obtain ⟨e, he, hb⟩ := List.any_eq_true.1 h
    rw [entBad_iff.2 (h3 e he)] at hb; cases hb
theorem OkS.small {s : Sto} (h : OkS s) : s.Small := ⟨by have := h.len; omega, fun e he => (h.all e he).val.small⟩
def getE (l : List Ent) (k : ByteArray) : Option Ent := l.find? fun e => decide (e.key = k)
theorem getE_none {l : List Ent} {k : ByteArray} : getE l k = none ↔ ∀ e ∈ l, e.key ≠ k := by
  unfold getE
  rw [List.find?_eq_none]
  simp
theorem key_ne {a b : ByteArray} (h : cmpB a b < 0) : a ≠ b := fun e => by
  subst e
  rw [cmpB_self] at h
  omega
theorem getE_append (a b : List Ent) (k : ByteArray) : getE (a ++ b) k = (getE a k).or (getE b k) := List.find?_append
theorem split_E {l : List Ent} {i : Nat} {x : Ent} (h : l[i]? = some x) : l = l.take i ++ x :: l.drop (i + 1) := by
  have hl := (List.getElem?_eq_some_iff.1 h).1
  have hx := (List.getElem?_eq_some_iff.1 h).2
  rw [← hx, ← List.drop_eq_getElem_cons hl, List.take_append_drop]
theorem rise_split {a b : List Ent} {x : Ent} (h : Rise (a ++ x :: b)) : getE a x.key = none ∧ getE b x.key = none := by
  obtain ⟨h1, h2, h3⟩ := List.pairwise_append.1 h
  exact ⟨getE_none.2 fun e he => key_ne (h3 e he _ (List.mem_cons_self ..)), getE_none.2 fun e he => fun e2 => key_ne ((List.pairwise_cons.1 h2).1 e he) e2.symm⟩
theorem getE_at {l : List Ent} (hr : Rise l) {i : Nat} {x : Ent} (hi : l[i]? = some x) : getE l x.key = some x := by
  have hs := split_E hi
  rw [hs] at hr ⊢
  obtain ⟨h1, h2⟩ := rise_split hr
  rw [getE_append, h1]
  simp [getE]
theorem inE_some {l : List Ent} {k : ByteArray} (h : inE l k = true) : ∃ e, l[findE l k]? = some e ∧ e.key = k := by
  unfold inE at h
  cases hx : l[findE l k]? with
  | none => rw [hx] at h; cases h
  | some a => rw [hx] at h; exact ⟨a, rfl, cmpB_eq (by simpa using h)⟩
theorem findE_lt {l : List Ent} {k : ByteArray} : ∀ a ∈ l.take (findE l k), cmpB a.key k < 0 := fun a ha => by
  simpa using take_lt (fun e : Ent => decide (cmpB e.key k < 0)) l a ha
theorem findE_ge {l : List Ent} (hr : Rise l) {k : ByteArray} : ∀ (j : Nat) a, l[j]? = some a → findE l k ≤ j → 0 ≤ cmpB a.key k := fun j a h1 h2 => by
  have := plc_ge (cmp := bE) (fun e : Ent => decide (cmpB e.key k < 0)) bE_tr (fun a b h1 h2 => by
    simp only [decide_eq_true_eq] at h2 ⊢
    exact cmpB_tr _ _ _ h1 h2) l ((rising_iff bE_tr).2 hr) j a h1 h2
  simpa using this
theorem findE_le (l : List Ent) (k : ByteArray) : findE l k ≤ l.length := plc_le _ _
theorem findE_drop {l : List Ent} (hr : Rise l) {k : ByteArray} (h : inE l k = false) : ∀ b ∈ l.drop (findE l k), cmpB k b.key < 0 := by
  intro b hb
  obtain ⟨j, hj, hbj⟩ := mem_drop_get hb
  have hge := findE_ge hr j b hbj hj
  have hne : cmpB b.key k ≠ 0 := by
    intro e
    rcases Nat.lt_or_ge (findE l k) j with hlt | hge'
    · have hlen := lt_of_getElem? hbj
      have ha : l[findE l k]? = some l[findE l k] := List.getElem?_eq_getElem (by omega)
      have h1 := findE_ge hr _ _ ha (Nat.le_refl _)
      have h2 : cmpB l[findE l k].key l[j].key < 0 := List.pairwise_iff_getElem.1 hr _ _ (by omega) hlen hlt
      rw [List.getElem?_eq_getElem hlen] at hbj
      have hb' : l[j] = b := Option.some.inj hbj
      rw [hb'] at h2
      have h3 := cmpB_eq e
      rw [h3] at h2; omega
    · have : j = findE l k := by omega
      subst this
      unfold inE at h
      rw [hbj] at h
      simp at h
      exact h e
  rw [cmpB_anti]; omega
theorem inE_get {l : List Ent} (hr : Rise l) (k : ByteArray) : inE l k = (getE l k).isSome ∧ (if inE l k then l[findE l k]? else none) = getE l k := by
  cases h : inE l k with
  | true =>
    obtain ⟨e, h1, h2⟩ := inE_some h
    have := getE_at hr h1
    rw [h2] at this
    rw [this]
    exact ⟨rfl, h1⟩
  | false =>
    have h1 := findE_drop hr h
    have h2 := findE_lt (l := l) (k := k)
    have : getE l k = none := getE_none.2 fun e he => by
      have hm : e ∈ l.take (findE l k) ++ l.drop (findE l k) := by rw [List.take_append_drop]; exact he
      rcases List.mem_append.1 hm with hm | hm
      · exact key_ne (h2 e hm)
      · exact fun e2 => key_ne (h1 e hm) e2.symm
    rw [this]
    exact ⟨rfl, rfl⟩
theorem getE_mem {l : List Ent} {k : ByteArray} {e : Ent} (h : getE l k = some e) : e ∈ l ∧ e.key = k := by
  unfold getE at h
  exact ⟨List.mem_of_find?_eq_some h, by simpa using List.find?_some h⟩
theorem getE_ins {l : List Ent} (hr : Rise l) {x : Ent} (h : inE l x.key = false) : (∀ k, getE (insAt l (findE l x.key) x) k = if k = x.key then some x else getE l k) ∧ Rise (insAt l (findE l x.key) x) := by
  have hl : getE l x.key = none := by have := (inE_get hr x.key).1; rw [h] at this; cases hg : getE l x.key with | none => rfl | some => rw [hg] at this; cases this
  refine ⟨fun k => ?_, ?_⟩
  · have hg : getE l k = (getE (l.take (findE l x.key)) k).or (getE (l.drop (findE l x.key)) k) := by rw [← getE_append, List.take_append_drop]
    unfold insAt
    rw [getE_append]
    by_cases hk : k = x.key
    · subst hk
      have : getE (l.take (findE l x.key)) x.key = none := getE_none.2 fun e he => key_ne (findE_lt e he)
      rw [this]
      simp [getE]
    · have : getE (x :: l.drop (findE l x.key)) k = getE (l.drop (findE l x.key)) k := by
        unfold getE
        rw [List.find?_cons_of_neg]
        simpa using fun e => hk e.symm
      rw [this, if_neg hk, hg]
  · exact pair_ins hr (fun a ha => findE_lt a ha) (fun b hb => findE_drop hr h b hb)
theorem getE_set {l : List Ent} (hr : Rise l) {i : Nat} {x y : Ent} (hi : l[i]? = some x) (hk : y.key = x.key) : (∀ k, getE (l.set i y) k = if k = x.key then some y else getE l k) ∧ Rise (l.set i y) := by
  have hs := split_E hi
  have hlt := (List.getElem?_eq_some_iff.1 hi).1
  have hr' := hr
  rw [hs] at hr'
  obtain ⟨h1, h2⟩ := rise_split hr'
  have hset : l.set i y = l.take i ++ y :: l.drop (i + 1) := by rw [List.set_eq_take_append_cons_drop, if_pos hlt]
  refine ⟨fun k => ?_, ?_⟩
  · have hg : getE l k = (getE (l.take i) k).or (getE (x :: l.drop (i + 1)) k) := by rw [← getE_append, ← hs]
    rw [hset, getE_append, hg]
    by_cases h : k = x.key
    · subst h; rw [h1, if_pos rfl]; simp [getE, hk]
    · rw [if_neg h]
      congr 1
      unfold getE
      rw [List.find?_cons_of_neg, List.find?_cons_of_neg]
      · simpa using fun e => h e.symm
      · rw [hk]; simpa using fun e => h e.symm
  · rw [hset]
    obtain ⟨a1, a2, a3⟩ := List.pairwise_append.1 hr'
    obtain ⟨b1, b2⟩ := List.pairwise_cons.1 a2
    refine List.pairwise_append.2 ⟨a1, List.pairwise_cons.2 ⟨fun e he => by rw [hk]; exact b1 e he, b2⟩, fun e he f hf => ?_⟩
    rcases List.mem_cons.1 hf with rfl | hf
    · rw [hk]; exact a3 e he x (List.mem_cons_self ..)
    · exact a3 e he f (List.mem_cons_of_mem _ hf)
theorem getE_del {l : List Ent} (hr : Rise l) {i : Nat} {x : Ent} (hi : l[i]? = some x) : (∀ k, getE (delAt l i) k = if k = x.key then none else getE l k) ∧ Rise (delAt l i) := by
  have hs := split_E hi
  have hr' := hr
  rw [hs] at hr'
  obtain ⟨h1, h2⟩ := rise_split hr'
  refine ⟨fun k => ?_, hr.sublist (del_sub l i)⟩
  have hg : getE l k = (getE (l.take i) k).or (getE (x :: l.drop (i + 1)) k) := by rw [← getE_append, ← hs]
  unfold delAt
  rw [getE_append, hg]
  by_cases h : k = x.key
  · subst h; rw [h1, h2, if_pos rfl]; rfl
  · rw [if_neg h]
    congr 1
    unfold getE
    rw [List.find?_cons_of_neg]
    simpa using fun e => h e.symm
theorem vk_there {v : Val} (h : Vk v) (hk : v.kind ≠ 0) : OkV v := by
  rcases h with h | h
  · exact h
  · rw [h] at hk; exact absurd rfl hk
theorem checkC_key {c : Cmd} (hc : checkC c = 0) (hk : c.kind ≠ 22) : okField c.key = true := by
  cases hk' : okField c.key with
  | true => rfl
  | false =>
    exfalso
    have h22 : (c.kind != 22) = true := by simpa using hk
    unfold checkC checkCommand at hc
    rw [hk', h22] at hc
    repeat' split at hc
    all_goals first | (cases hc; done) | (simp at *; done)
theorem mem_getE {l : List Ent} (hr : Rise l) {e : Ent} (h : e ∈ l) : getE l e.key = some e := by
  obtain ⟨i, hi, rfl⟩ := List.getElem_of_mem h
  exact getE_at hr (List.getElem?_eq_getElem hi)
theorem insAt_len {α : Type} (l : List α) (i : Nat) (x : α) : (insAt l i x).length = l.length + 1 := insAt_length l i x
theorem delE_len {α : Type} {l : List α} {i : Nat} (h : i < l.length) : (delAt l i).length + 1 = l.length := by
  unfold delAt
  simp only [List.length_append, List.length_take, List.length_drop]; omega
def putE (l : List Ent) (c : Cmd) (v : Val) : Ent := ⟨c.key, v, match getE l c.key with | some e => if c.kind = 1 then 0 else e.till | none => 0⟩
theorem setE_spec {l : List Ent} (hr : Rise l) (c : Cmd) (v : Val) :
    (∀ k, getE (setE l c v) k = if k = c.key then some (putE l c v) else getE l k) ∧ Rise (setE l c v) ∧ (setE l c v).length = if (getE l c.key).isSome = true then l.length else l.length + 1 := by
  obtain ⟨h1, h2⟩ := inE_get hr c.key
  unfold setE putE
  cases h : inE l c.key with
  | true =>
    obtain ⟨e, h3, h4⟩ := inE_some h
    have hg := getE_at hr h3
    rw [h4] at hg
    rw [if_pos rfl, h3, hg]
    simp only
    obtain ⟨g1, g2⟩ := getE_set hr (y := ⟨e.key, v, if c.kind = 1 then 0 else e.till⟩) h3 rfl
    refine ⟨fun k => ?_, g2, by simp⟩
    rw [g1, h4]
  | false =>
    rw [h] at h1
    have hg : getE l c.key = none := by cases hg : getE l c.key with | none => rfl | some => rw [hg] at h1; cases h1
    rw [hg]
    simp only [Bool.false_eq_true, if_false]
    obtain ⟨g1, g2⟩ := getE_ins hr (x := ⟨c.key, v, 0⟩) h
    exact ⟨g1, g2, by rw [insAt_len]; rfl⟩
theorem oldV_get {l : List Ent} (hr : Rise l) (c : Cmd) : oldV l c = ((getE l c.key).map Ent.val).getD zeroV := by
  unfold oldV
  rw [(inE_get hr c.key).2]
  cases getE l c.key <;> rfl
structure Did (l : List Ent) (k : ByteArray) (x : Option Ent) (l' : List Ent) : Prop where
  rise : Rise l'
  here : getE l' k = x
  other : ∀ k', k' ≠ k → getE l' k' = getE l k'
  len : l'.length = if x.isSome = true then (if (getE l k).isSome = true then l.length else l.length + 1) else (if (getE l k).isSome = true then l.length - 1 else l.length)
theorem Did.none {l : List Ent} (hr : Rise l) (k : ByteArray) : Did l k (getE l k) l := ⟨hr, rfl, fun _ _ => rfl, by split <;> rfl⟩
theorem did_set {l : List Ent} (hr : Rise l) (c : Cmd) (v : Val) : Did l c.key (some (putE l c v)) (setE l c v) := by
  obtain ⟨h1, h2, h3⟩ := setE_spec hr c v
  exact ⟨h2, by rw [h1, if_pos rfl], fun k hk => by rw [h1, if_neg hk], h3⟩
theorem did_del {l : List Ent} (hr : Rise l) {k : ByteArray} (h : inE l k = true) : Did l k .none (delAt l (findE l k)) := by
  obtain ⟨e, h3, h4⟩ := inE_some h
  obtain ⟨g1, g2⟩ := getE_del hr h3
  have hg := getE_at hr h3
  rw [h4] at g1 hg
  refine ⟨g2, by rw [g1, if_pos rfl], fun k' hk => by rw [g1, if_neg hk], ?_⟩
  rw [hg]
  have := delE_len (lt_of_getElem? h3)
  simp
  omega
theorem did_upd {l : List Ent} (hr : Rise l) {k : ByteArray} {e : Ent} (h : getE l k = some e) (n : Int) (y : Ent) (hy : y.key = k) : Did l k (some y) (l.set (findE l k) y) := by
  have h1 := (inE_get hr k)
  rw [h] at h1
  rw [h1.1] at h1
  obtain ⟨g1, g2⟩ := getE_set hr (y := y) (i := findE l k) (x := e) (by simpa using h1.2) (by rw [hy]; exact (getE_mem h).2.symm)
  rw [(getE_mem h).2] at g1
  refine ⟨g2, by rw [g1, if_pos rfl], fun k' hk => by rw [g1, if_neg hk], ?_⟩
  rw [h]; simp
def newV (l : List Ent) (c : Cmd) : Val := (DoV (((getE l c.key).map Ent.val).getD zeroV) c).1
def newR (l : List Ent) (c : Cmd) : Rep := (DoV (((getE l c.key).map Ent.val).getD zeroV) c).2.1
theorem valE_spec {l : List Ent} (hr : Rise l) (c : Cmd) :
    Did l c.key (if (newR l c).code ≠ 0 then getE l c.key else if (newV l c).kind = 0 ∧ (getE l c.key).isSome = true then .none else if (getE l c.key).isSome = false ∧ l.length = 12 then getE l c.key else if (newV l c).kind ≠ 0 then some (putE l c (newV l c)) else getE l c.key) (valE l c).1 ∧
    (valE l c).2 = if (newR l c).code ≠ 0 then newR l c else if (newV l c).kind = 0 ∧ (getE l c.key).isSome = true then newR l c else if (getE l c.key).isSome = false ∧ l.length = 12 then failR 6 else newR l c := by
  have h1 := (inE_get hr c.key).1
  unfold valE
  rw [oldV_get hr, h1]
  simp only [← h1]
  change Did _ _ _ (if (newR l c).code ≠ 0 then (l, newR l c) else if (newV l c).kind = 0 ∧ inE l c.key = true then (delAt l (findE l c.key), newR l c) else if inE l c.key = false ∧ l.length = 12 then (l, failR 6) else if (newV l c).kind ≠ 0 then (setE l c (newV l c), newR l c) else (l, newR l c)).1 ∧ (if (newR l c).code ≠ 0 then (l, newR l c) else if (newV l c).kind = 0 ∧ inE l c.key = true then (delAt l (findE l c.key), newR l c) else if inE l c.key = false ∧ l.length = 12 then (l, failR 6) else if (newV l c).kind ≠ 0 then (setE l c (newV l c), newR l c) else (l, newR l c)).2 = _
  by_cases a1 : (newR l c).code ≠ 0
  · simp only [if_pos a1]
    exact ⟨Did.none hr _, trivial⟩
  · simp only [if_neg a1]
    by_cases a2 : (newV l c).kind = 0 ∧ inE l c.key = true
    · simp only [if_pos a2]
      exact ⟨did_del hr a2.2, trivial⟩
    · simp only [if_neg a2]
      by_cases a3 : inE l c.key = false ∧ l.length = 12
      · simp only [if_pos a3]
        exact ⟨Did.none hr _, trivial⟩
      · simp only [if_neg a3]
        by_cases a4 : (newV l c).kind ≠ 0
        · simp only [if_pos a4]
          exact ⟨did_set hr c _, trivial⟩
        · simp only [if_neg a4]
          exact ⟨Did.none hr _, trivial⟩
theorem timedE_spec {l : List Ent} (hr : Rise l) (now : Int) (c : Cmd) :
    (getE l c.key = none → timedE now l c = (l, failR 5)) ∧
    ∀ e, getE l c.key = some e → (c.kind = 21 → timedE now l c = (l, toldR (if e.till - now < 0 then 0 else e.till - now))) ∧
      (c.kind ≠ 21 → (c.n < 1 ∨ 1073741824 - now < c.n) → timedE now l c = (l, failR 2)) ∧
      (c.kind ≠ 21 → ¬ (c.n < 1 ∨ 1073741824 - now < c.n) → (timedE now l c).2 = toldR 0 ∧ Did l c.key (some ⟨c.key, e.val, now + c.n⟩) (timedE now l c).1) := by
  have h1 := (inE_get hr c.key).2
  unfold timedE
  rw [h1]
  constructor
  · intro h; rw [h]
  · intro e h
    rw [h]
    simp only
    refine ⟨fun hk => by rw [if_pos hk], fun hk hn => by rw [if_neg hk, if_pos hn], fun hk hn => ?_⟩
    rw [if_neg hk, if_neg hn]
    have hke := (getE_mem h).2
    rw [hke]
    exact ⟨rfl, did_upd hr h 0 _ rfl⟩
theorem Did.all {l l' : List Ent} {k : ByteArray} {x : Option Ent} (h : Did l k x l') (hr : Rise l) {p : Ent → Prop} (hp : ∀ e ∈ l, p e) (hx : ∀ e, x = some e → p e) : ∀ e ∈ l', p e := by
  intro e he
  have hg := mem_getE h.rise he
  by_cases hk : e.key = k
  · rw [hk, h.here] at hg; exact hx e hg
  · rw [h.other _ hk] at hg; exact hp e (getE_mem hg).1
theorem doE_ok {now : Int} {l : List Ent} {c : Cmd} (h0 : 0 ≤ now) (hn : now ≤ 1073741824) (hr : Rise l) (ha : ∀ e ∈ l, OkE now e) (hl : l.length ≤ 12) (hc : checkC c = 0) :
    Rise (doE now l c).1 ∧ (∀ e ∈ (doE now l c).1, OkE now e) ∧ (doE now l c).1.length ≤ 12 := by
  have hkind := checkC_kind hc
  have hfacts := checkC_facts hc
  have keep : ∀ {x : Option Ent} {l' : List Ent}, Did l c.key x l' → (x.isSome = true → (getE l c.key).isSome = false → l.length < 12) → (∀ e, x = some e → OkE now e) → Rise l' ∧ (∀ e ∈ l', OkE now e) ∧ l'.length ≤ 12 := by
    intro x l' hd hx ho
    refine ⟨hd.rise, hd.all hr ha ho, ?_⟩
    rw [hd.len]
    by_cases a1 : x.isSome = true
    · rw [if_pos a1]
      by_cases a2 : (getE l c.key).isSome = true
      · rw [if_pos a2]; exact hl
      · rw [if_neg a2]; have := hx a1 (by simpa using a2); omega
    · rw [if_neg a1]; split <;> omega
  have hin : ∀ e, getE l c.key = some e → OkE now e := fun e he => ha e (getE_mem he).1
  unfold doE
  by_cases k1 : c.kind = 22
  · rw [if_pos k1]; exact ⟨hr, ha, hl⟩
  · have hkey := checkC_key hc k1
    rw [if_neg k1]
    by_cases k2 : c.kind = 19
    · rw [if_pos k2]
      cases h : inE l c.key with
      | true => rw [if_pos rfl]; exact keep (did_del hr h) (fun h => by cases h) (fun e h => by cases h)
      | false => rw [if_neg (by simp)]; exact ⟨hr, ha, hl⟩
    · rw [if_neg k2]
      by_cases k3 : c.kind = 20 ∨ c.kind = 21
      · rw [if_pos k3]
        obtain ⟨t1, t2⟩ := timedE_spec hr now c
        cases hg : getE l c.key with
        | none => rw [t1 hg]; exact ⟨hr, ha, hl⟩
        | some e =>
          obtain ⟨t3, t4, t5⟩ := t2 e hg
          have hoe := hin e hg
          by_cases k4 : c.kind = 21
          · rw [t3 k4]; exact ⟨hr, ha, hl⟩
          · by_cases k5 : c.n < 1 ∨ 1073741824 - now < c.n
            · rw [t4 k4 k5]; exact ⟨hr, ha, hl⟩
            · refine keep (t5 k4 k5).2 (fun _ h => by rw [hg] at h; cases h) (fun y hy => ?_)
              cases hy
              exact ⟨hkey, hoe.val, .inr ⟨by show now < now + c.n; omega, by show now + c.n ≤ 1073741824; omega⟩⟩
      · rw [if_neg k3]
        have hk18 : c.kind ≤ 18 := by omega
        have hvk : Vk (((getE l c.key).map Ent.val).getD zeroV) := by
          cases hg : getE l c.key with
          | none => exact .inr rfl
          | some e => exact .inl (hin e hg).val
        have hnv := (DoV_vk hvk hc hk18).2
        change Vk (newV l c) at hnv
        refine keep (valE_spec hr c).1 (fun h1 h2 => ?_) (fun y hy => ?_)
        · have hgn : getE l c.key = none := by cases hg : getE l c.key with | none => rfl | some => rw [hg] at h2; cases h2
          rw [hgn] at h1
          simp only [Option.isSome_none, Bool.false_eq_true, and_false, if_false, true_and] at h1
          by_cases hl12 : l.length = 12
          · rw [if_pos hl12] at h1
            simp at h1
          · omega
        · by_cases a1 : (newR l c).code ≠ 0
          · rw [if_pos a1] at hy; exact hin y hy
          · rw [if_neg a1] at hy
            by_cases a2 : (newV l c).kind = 0 ∧ (getE l c.key).isSome = true
            · rw [if_pos a2] at hy; cases hy
            · rw [if_neg a2] at hy
              by_cases a3 : (getE l c.key).isSome = false ∧ l.length = 12
              · rw [if_pos a3] at hy; exact hin y hy
              · rw [if_neg a3] at hy
                by_cases a4 : (newV l c).kind ≠ 0
                · rw [if_pos a4] at hy
                  cases hy
                  refine ⟨hkey, vk_there hnv a4, ?_⟩
                  unfold putE
                  simp only
                  cases hg : getE l c.key with
                  | none => exact .inl rfl
                  | some e =>
                    simp only
                    by_cases a5 : c.kind = 1
                    · rw [if_pos a5]; exact .inl rfl
                    · rw [if_neg a5]; exact (hin e hg).till
                · rw [if_neg a4] at hy; exact hin y hy
def aliveS (now : Int) (s : Sto) : List Ent := s.ents.filter fun e => !goneE now e
theorem alive_ok {s : Sto} (h : OkS s) {now : Int} (hn : s.now ≤ now) : Rise (aliveS now s) ∧ (∀ e ∈ aliveS now s, OkE now e) ∧ (aliveS now s).length ≤ 12 := by
  refine ⟨h.rise.filter _, fun e he => ?_, Nat.le_trans (List.length_filter_le ..) h.len⟩
  obtain ⟨h1, h2⟩ := List.mem_filter.1 he
  have ho := h.all e h1
  refine ⟨ho.key, ho.val, ?_⟩
  rcases ho.till with h3 | h3
  · exact .inl h3
  · refine .inr ⟨?_, h3.2⟩
    unfold goneE at h2
    simp at h2
    rcases h2 with h2 | h2
    · have := h.now; omega
    · exact h2
theorem maxI_le (a b : Int) : a ≤ maxI a b ∧ b ≤ maxI a b := by unfold maxI; split <;> omega
theorem apply_ok {s : Sto} (h : OkS s) {t : Int} (h0 : 0 ≤ t) (h1 : t ≤ 1073741824) {c : Cmd} (hc : checkC c = 0) :
    ApplyS s t c = (⟨maxI s.now t, (doE (maxI s.now t) (aliveS (maxI s.now t) s) c).1⟩, (doE (maxI s.now t) (aliveS (maxI s.now t) s) c).2, 0) ∧ OkS ⟨maxI s.now t, (doE (maxI s.now t) (aliveS (maxI s.now t) s) c).1⟩ := by
  have hm := maxI_le s.now t
  have hb : maxI s.now t ≤ 1073741824 := by have := h.now; unfold maxI; split <;> omega
  obtain ⟨a1, a2, a3⟩ := alive_ok h hm.1
  obtain ⟨d1, d2, d3⟩ := doE_ok (by have := h.now; omega) hb a1 a2 a3 hc
  refine ⟨?_, ⟨⟨by have := h.now; show 0 ≤ maxI s.now t; omega, hb⟩, d3, d2, d1⟩⟩
  unfold ApplyS
  rw [if_neg (by rw [checkS_iff.2 h]; simp), if_neg (by omega), if_neg (by rw [hc]; simp)]
  rfl
structure Stp where
  raw : Raw
  wait : Int
structure Stp.Ok (x : Stp) : Prop where
  raw : x.raw.Ok
  wait : i64 x.wait
def Stp.row (x : Stp) : List V := [.lit (.int .i64 x.raw.kind), .lit (.int .i64 x.raw.key), .lit (.int .i64 x.raw.field), .lit (.int .i64 x.raw.n), .lit (.string x.raw.text), .lit (.int .i64 x.wait)]
def Stp.c (x : Stp) : List C := [iC x.raw.kind, iC x.raw.key, iC x.raw.field, iC x.raw.n, sC x.raw.text, iC x.wait]
def Few (l : List Ent) : Prop := ∀ e ∈ l, e.key ∈ nine
theorem few_len {l : List Ent} (hr : Rise l) (h : Few l) : l.length ≤ 9 := by
  have := nodup_le (l.map Ent.key) nine (List.pairwise_map.2 (hr.imp fun h => key_ne h)) fun x hx => by
    obtain ⟨p, hp, rfl⟩ := List.mem_map.1 hx
    exact h p hp
  rw [List.length_map] at this
  exact this
structure OkT (s : Sto) : Prop where
  ok : OkS s
  few : Few s.ents
theorem OkT.len {s : Sto} (h : OkT s) : s.ents.length ≤ 9 := few_len h.ok.rise h.few
end Go.Proofs.YtpdcfljbabpakaaGreatDoor
set_option linter.unusedVariables false
set_option linter.unusedSimpArgs false
set_option maxRecDepth 100000
set_option maxHeartbeats 8000000
namespace Go.Proofs.YtpdcfljbabpakaaGreatDoor
open Go Go.RowKit Go.Proofs.AE
variable {G : Nat → AV}
theorem maxI_self (a : Int) : maxI a a = a := by unfold maxI; split <;> rfl
theorem form_plain {k : Int} {key f t : ByteArray} {n : Int} (h1 : 1 ≤ k) (h2 : k ≤ 22) (hkey : k = 22 ∧ key = ⟨#[]⟩ ∨ k ≠ 22 ∧ okField key = true) (hf : (k = 4 ∨ k = 5 ∨ k = 6) ∧ okField f = true ∨ ¬ (k = 4 ∨ k = 5 ∨ k = 6) ∧ f = ⟨#[]⟩)
    (ht : okText t = true ∧ (k = 1 ∨ k = 4 ∨ k = 7 ∨ k = 8 ∨ k = 11 ∨ k = 12 ∨ k = 13 ∨ k = 14 ∨ k = 15 ∨ k = 16) ∨ t = ⟨#[]⟩) (hn : okCount n = true ∧ (k = 3 ∨ k = 14 ∨ k = 20) ∨ n = 0) : checkC ⟨k, key, f, t, n⟩ = 0 := by
  have ht' : okText t = true := by rcases ht with h | h; exact h.1; rw [h]; rfl
  have hn' : okCount n = true := by rcases hn with h | h; exact h.1; rw [h]; rfl
  have hform : formOk k key f t n = true := by
    unfold formOk
    have a1 : ((k != 22) || decide (key = ⟨#[]⟩)) = true := by
      rcases hkey with h | h
      · simp [h.2]
      · simp [h.1]
    have a2 : ((k == 4 || k == 5 || k == 6) || decide (f = ⟨#[]⟩)) = true := by
      rcases hf with h | h
      · rcases h.1 with e | e | e <;> simp [e]
      · simp [h.2]
    have a3 : ((k == 1 || k == 4 || k == 7 || k == 8 || k == 11 || k == 12 || k == 13 || k == 14 || k == 15 || k == 16) || decide (t = ⟨#[]⟩)) = true := by
      rcases ht with h | h
      · rcases h.2 with e | e | e | e | e | e | e | e | e | e <;> simp [e]
      · simp [h]
    have a4 : ((k == 3 || k == 14 || k == 20) || n == 0) = true := by
      rcases hn with h | h
      · rcases h.2 with e | e | e <;> simp [e]
      · simp [h]
    rw [a1, a2, a3, a4]; rfl
  unfold checkC checkCommand
  simp only
  rw [if_neg (by omega), if_neg (by omega), if_neg (by rw [hform]; simp)]
  have b : ((k != 22 && !okField key || ((k == 4 || k == 5 || k == 6) && !okField f)) || !okText t) = false := by
    rw [ht']
    have b1 : (k != 22 && !okField key) = false := by
      rcases hkey with h | h
      · simp [h.1]
      · simp [h.2]
    rw [b1]
    rcases hf with h | h
    · rw [h.2]; simp
    · have : (k == 4 || k == 5 || k == 6) = false := by
        have := h.1
        simp; omega
      rw [this]; simp
  rw [b, hn']
  simp
def keysC : Cmd := ⟨22, ⟨#[]⟩, ⟨#[]⟩, ⟨#[]⟩, 0⟩
theorem keysC_ok : checkC keysC = 0 := form_plain (by omega) (by omega) (.inl ⟨rfl, rfl⟩) (.inr ⟨by omega, rfl⟩) (.inr rfl) (.inr rfl)
theorem doE_keys (now : Int) (l : List Ent) : doE now l keysC = (l, ⟨0, ⟨#[]⟩, 0, l.map Ent.key⟩) := by
  unfold doE
  rw [if_pos (show keysC.kind = 22 from rfl)]
end Go.Proofs.YtpdcfljbabpakaaGreatDoor
set_option linter.unusedVariables false
set_option linter.unusedSimpArgs false
set_option maxRecDepth 100000
set_option maxHeartbeats 8000000
namespace Go.Proofs.YtpdcfljbabpakaaGreatDoor
open Go Go.RowKit Go.Proofs.AE
variable {G : Nat → AV}
structure OkR (r : Rep) : Prop where
  code : 0 ≤ r.code ∧ r.code ≤ 13
  text : okText r.text = true
  len : r.list.length ≤ 20
  list : ∀ s ∈ r.list, okText s = true
  n : okCount r.n = true
theorem told_ok {n : Int} (h : okCount n = true) : OkR (toldR n) := ⟨⟨by show (0 : Int) ≤ 0; omega, by show (0 : Int) ≤ 13; omega⟩, rfl, Nat.zero_le _, (fun s hs => by cases hs), h⟩
theorem told_small {n : Int} (h0 : 0 ≤ n) (h1 : n ≤ 1099511627776) : OkR (toldR n) := told_ok (by unfold okCount; simp; omega)
theorem fail_ok {e : Int} (h0 : 0 ≤ e) (h1 : e ≤ 13) : OkR (failR e) := ⟨⟨h0, h1⟩, rfl, Nat.zero_le _, (fun s hs => by cases hs), rfl⟩
theorem textR_ok {t : ByteArray} (h : okText t = true) : OkR (textR t) := ⟨⟨by show (0 : Int) ≤ 0; omega, by show (0 : Int) ≤ 13; omega⟩, h, Nat.zero_le _, (fun s hs => by cases hs), rfl⟩
theorem flag_ok (b : Bool) : OkR (toldR (flagN b)) := told_small (by cases b <;> decide) (by cases b <;> decide)
theorem hashR_ok {l : List Pr} {c : Cmd} (h : ∀ p ∈ l, okField p.1 = true ∧ okText p.2 = true) (ht : okText c.text = true) : OkR (hashV l c).2 := by
  unfold hashV
  simp only
  repeat' split
  · exact told_small (by omega) (by omega)
  · exact fail_ok (by omega) (by omega)
  · exact told_small (by omega) (by omega)
  · refine textR_ok ?_
    cases hx : l[hashAt l c.field]? with
    | none => exact ht
    | some a => exact (h a (List.mem_of_getElem? hx)).2
  · exact fail_ok (by omega) (by omega)
  · exact told_small (by omega) (by omega)
  · exact told_small (by omega) (by omega)
theorem listR_ok {l : List ByteArray} {c : Cmd} (h : ∀ s ∈ l, okText s = true) (hl : l.length ≤ 20) : OkR (listV l c).2 := by
  have hg : ∀ i : Nat, okText (l[i]?.getD ⟨#[]⟩) = true := fun i => by
    cases hx : l[i]? with
    | none => rfl
    | some a => exact h a (List.mem_of_getElem? hx)
  unfold listV
  repeat' split
  · exact fail_ok (by omega) (by omega)
  · exact told_small (by omega) (by omega)
  · exact told_small (by omega) (by omega)
  · exact textR_ok (hg _)
  · exact textR_ok (hg _)
theorem setR_ok (l : List ByteArray) (c : Cmd) : OkR (setV l c).2 := by
  unfold setV
  simp only
  repeat' split
  all_goals first | exact told_small (by omega) (by omega) | exact fail_ok (by omega) (by omega) | exact flag_ok _
theorem firstI_bound {α : Type} (p : α → Bool) : ∀ (l : List α) (i : Nat), -1 ≤ firstI p i l ∧ firstI p i l < (i : Int) + l.length + 1
  | [], i => by unfold firstI; simp; omega
  | a :: l, i => by
    unfold firstI
    split
    · simp; omega
    · have := firstI_bound p l (i + 1)
      simp only [List.length_cons]
      omega
theorem ranksR_ok {l : List Sc} {c : Cmd} (hl : l.length ≤ 20) : OkR (ranksV l c).2 := by
  have hb := firstI_bound (fun s : Sc => decide (s.1 = c.text)) l 0
  change -1 ≤ rankOf l c.text ∧ rankOf l c.text < _ at hb
  unfold ranksV
  simp only
  repeat' split
  all_goals first | exact told_small (by omega) (by omega) | exact fail_ok (by omega) (by omega)
theorem allV_ok {v : Val} (h : OkB v) : (allV v).length ≤ 20 ∧ ∀ s ∈ allV v, okText s = true := by
  have he := h.els
  unfold Val.els at he
  unfold allV
  refine ⟨by simp; omega, fun s hs => ?_⟩
  rcases List.mem_append.1 hs with hs | hs
  · rcases List.mem_append.1 hs with hs | hs
    · exact h.okI s hs
    · obtain ⟨p, hp, rfl⟩ := List.mem_map.1 hs
      have := (h.okP p hp).1
      unfold okField at this
      unfold okText
      simp only [Bool.and_eq_true, decide_eq_true_eq] at this ⊢
      omega
  · obtain ⟨p, hp, rfl⟩ := List.mem_map.1 hs
    exact (h.okS p hp).1
theorem doV_okR {v : Val} {c : Cmd} (h : OkB v) (ht : okText c.text = true) : OkR (doV v c).2 := by
  have he := h.els
  unfold Val.els at he
  unfold doV
  repeat' split
  · exact told_small (by omega) (by omega)
  · exact textR_ok h.okT
  · rename_i hc; exact told_ok hc
  · exact fail_ok (by omega) (by omega)
  · refine told_small ?_ ?_ <;> (unfold Val.els; omega)
  · obtain ⟨h1, h2⟩ := allV_ok h
    exact ⟨⟨by show (0 : Int) ≤ 0; omega, by show (0 : Int) ≤ 13; omega⟩, rfl, h1, h2, rfl⟩
  · exact hashR_ok h.okP ht
  · exact listR_ok h.okI (by omega)
  · exact setR_ok _ _
  · exact ranksR_ok (by omega)
theorem DoEnd_okR {v : Val} {q : Val × Rep} (h : OkR q.2) : OkR (DoEnd v q).2.1 := by
  unfold DoEnd
  repeat' split
  all_goals exact h
theorem DoV_okR {v : Val} {c : Cmd} (hv : Vk v) (hc : checkC c = 0) (hk : c.kind ≤ 18) : OkR (DoV v c).2.1 := by
  have ht := (checkC_facts hc).2.2.1
  have hk1 := checkC_kind hc
  rcases hv with h | h
  · have hv := checkV_iff.2 h
    by_cases hm : (kindOfC c.kind ≠ 0 ∧ kindOfC c.kind ≠ v.kind) ∨ (17 ≤ c.kind ∧ v.kind < 3)
    · rw [DoV_type hv hc hk hm]; exact fail_ok (by omega) (by omega)
    · rw [DoV_go hv hc hk hm]; exact DoEnd_okR (doV_okR h.b ht)
  · subst h
    rw [DoV_zero hc hk]
    split
    · by_cases e : c.kind = 1
      · have hd : doV ⟨kindOfC c.kind, ⟨#[]⟩, 0, [], [], []⟩ c = doV ⟨1, ⟨#[]⟩, 0, [], [], []⟩ c := by unfold doV; rw [if_pos e, if_pos e]
        rw [hd]
        exact DoEnd_okR (doV_okR (fresh_b (by omega) (by omega)) ht)
      · rename_i hmk
        have hk2 : c.kind ≤ 14 := by
          unfold makesC at hmk
          simp at hmk
          omega
        have hr : 1 ≤ kindOfC c.kind ∧ kindOfC c.kind ≤ 6 := by
          have hne := kindOf_zero hk1 (by omega) e
          unfold kindOfC at hne ⊢
          repeat' split
          all_goals simp_all
        exact DoEnd_okR (doV_okR (fresh_b hr.1 hr.2) ht)
    · exact fail_ok (by omega) (by omega)
theorem doE_okR {now : Int} {l : List Ent} {c : Cmd} (hn0 : 0 ≤ now) (hr : Rise l) (ha : ∀ e ∈ l, OkE now e) (hl : l.length ≤ 12) (hc : checkC c = 0) : OkR (doE now l c).2 := by
  have hk1 := checkC_kind hc
  have hkf := (checkC_facts hc).2.1
  unfold doE
  by_cases k1 : c.kind = 22
  · rw [if_pos k1]
    refine ⟨⟨by show (0 : Int) ≤ 0; omega, by show (0 : Int) ≤ 13; omega⟩, rfl, by show (l.map Ent.key).length ≤ 20; rw [List.length_map]; omega, fun s hs => ?_, rfl⟩
    obtain ⟨e, he, rfl⟩ := List.mem_map.1 hs
    have := (ha e he).key
    unfold okField at this
    unfold okText
    simp only [Bool.and_eq_true, decide_eq_true_eq] at this ⊢
    omega
  · rw [if_neg k1]
    by_cases k2 : c.kind = 19
    · rw [if_pos k2]
      split <;> exact told_small (by omega) (by omega)
    · rw [if_neg k2]
      by_cases k3 : c.kind = 20 ∨ c.kind = 21
      · rw [if_pos k3]
        obtain ⟨t1, t2⟩ := timedE_spec hr now c
        cases hg : getE l c.key with
        | none => rw [t1 hg]; exact fail_ok (by omega) (by omega)
        | some e =>
          obtain ⟨t3, t4, t5⟩ := t2 e hg
          have ht := (ha e (getE_mem hg).1).till
          by_cases k4 : c.kind = 21
          · rw [t3 k4]; refine told_small ?_ ?_ <;> (split <;> omega)
          · by_cases k5 : c.n < 1 ∨ 1073741824 - now < c.n
            · rw [t4 k4 k5]; exact fail_ok (by omega) (by omega)
            · rw [(t5 k4 k5).1]; exact told_small (by omega) (by omega)
      · rw [if_neg k3, (valE_spec hr c).2]
        have hvk : Vk (((getE l c.key).map Ent.val).getD zeroV) := by
          cases hg : getE l c.key with
          | none => exact .inr rfl
          | some e => exact .inl (ha e (getE_mem hg).1).val
        have hn := DoV_okR hvk hc (by omega)
        change OkR (newR l c) at hn
        repeat' split
        all_goals first | exact hn | exact fail_ok (by omega) (by omega)
theorem apply_okR {s : Sto} (h : OkS s) {t : Int} (h0 : 0 ≤ t) (h1 : t ≤ 1073741824) {c : Cmd} (hc : checkC c = 0) : OkR (ApplyS s t c).2.1 := by
  rw [(apply_ok h h0 h1 hc).1]
  obtain ⟨a1, a2, a3⟩ := alive_ok h (maxI_le s.now t).1
  exact doE_okR (by have := h.now; have := maxI_le s.now t; omega) a1 a2 a3 hc
structure Cli where
  id : Int
  seq : Int
  time : Int
  reply : Rep
structure Mach where
  sto : Sto
  next : Int
  clis : List Cli
structure Cal where
  client : Int
  seq : Int
  cmd : Cmd
def Cli.c (x : Cli) : List C := [iC x.id, iC x.seq, iC x.time, iC x.reply.code, sC x.reply.text, iC x.reply.n, .v (.sl (strRows x.reply.list))]
def Cli.row (x : Cli) : List V := [.lit (.int .i64 x.id), .lit (.int .i64 x.seq), .lit (.int .i64 x.time), .lit (.int .i64 x.reply.code), .lit (.string x.reply.text), .lit (.int .i64 x.reply.n), .sl (strRows x.reply.list)]
abbrev clR (l : List Cli) : List (List V) := l.map Cli.row
def Mach.c (m : Mach) : List C := [iC m.sto.now, .v (.sl (eR m.sto.ents)), iC m.next, .v (.sl (clR m.clis))]
def Cal.c (c : Cal) : List C := [iC c.client, iC c.seq, iC c.cmd.kind, sC c.cmd.key, sC c.cmd.field, sC c.cmd.text, iC c.cmd.n]
def checkR (r : Rep) : Int := checkReply r.code r.text r.n r.list
def checkCl (c : Cal) : Int := checkCall c.client c.seq c.cmd.kind c.cmd.key c.cmd.field c.cmd.text c.cmd.n
def badC (next now : Int) (x : Cli) : Bool := decide (x.id < 1) || decide (next ≤ x.id) || decide (x.seq < 0) || decide (1048576 < x.seq) || decide (x.time < 0) || decide (now < x.time) || (checkR x.reply != 0)
def cI (a b : Cli) : Int := a.id - b.id
def checkM (m : Mach) : Int :=
  if checkS m.sto ≠ 0 ∨ m.next < 1 ∨ 1048577 < m.next ∨ 4 < m.clis.length then 13
  else if m.clis.any (badC m.next m.sto.now) = true then 13
  else if rising cI m.clis = true then 0 else 13
def oldest : List Cli → Nat → Nat → List Cli → Nat
  | _, old, _, [] => old
  | all, old, i, x :: r => oldest all (match all[old]? with | some y => if x.time < y.time then i else old | none => old) (i + 1) r
def openM (m : Mach) : Mach × Rep :=
  if 1048576 < m.next then (m, failR 6)
  else (⟨m.sto, m.next + 1, (if m.clis.length = 4 then delAt m.clis (oldest m.clis 0 0 m.clis) else m.clis) ++ [⟨m.next, 0, m.sto.now, toldR 0⟩]⟩, toldR m.next)
def findC (l : List Cli) (id : Int) : Int := firstI (fun x => x.id == id) 0 l
def zeroM : Mach := ⟨zeroS, 0, []⟩
def callM (m : Mach) (time : Int) (c : Cal) : Mach × Rep :=
  if c.client = 0 then openM m
  else if findC m.clis c.client < 0 then (m, failR 11)
  else match m.clis[(findC m.clis c.client).toNat]? with
    | none => (m, failR 11)
    | some x =>
      if c.seq = x.seq then (m, x.reply)
      else if c.seq ≠ x.seq + 1 then (m, failR 10)
      else (⟨(ApplyS m.sto time c.cmd).1, m.next, m.clis.set (findC m.clis c.client).toNat ⟨x.id, c.seq, (ApplyS m.sto time c.cmd).1.now, (ApplyS m.sto time c.cmd).2.1⟩⟩, (ApplyS m.sto time c.cmd).2.1)
def DoM (m : Mach) (time : Int) (c : Cal) : Mach × Rep × Int :=
  if checkM m ≠ 0 then (zeroM, toldR 0, checkM m)
  else if time < 0 ∨ 1073741824 < time then (zeroM, toldR 0, 2)
  else if checkCl c ≠ 0 then (zeroM, toldR 0, checkCl c)
  else ((callM ⟨(ApplyS m.sto time keysC).1, m.next, m.clis⟩ time c).1, (callM ⟨(ApplyS m.sto time keysC).1, m.next, m.clis⟩ time c).2, 0)
structure OkC (next now : Int) (x : Cli) : Prop where
  id : 1 ≤ x.id ∧ x.id < next
  seq : 0 ≤ x.seq ∧ x.seq ≤ 1048576
  time : 0 ≤ x.time ∧ x.time ≤ now
  reply : checkR x.reply = 0
def RiseC (l : List Cli) : Prop := l.Pairwise (fun a b => a.id < b.id)
structure OkM (m : Mach) : Prop where
  sto : OkS m.sto
  next : 1 ≤ m.next ∧ m.next ≤ 1048577
  len : m.clis.length ≤ 4
  all : ∀ x ∈ m.clis, OkC m.next m.sto.now x
  rise : RiseC m.clis
theorem badC_iff {next now : Int} {x : Cli} : badC next now x = false ↔ OkC next now x := by
  unfold badC
  constructor
  · intro h
    simp only [Bool.or_eq_false_iff, decide_eq_false_iff_not, bne_eq_false_iff_eq] at h
    obtain ⟨⟨⟨⟨⟨⟨h1, h2⟩, h3⟩, h4⟩, h5⟩, h6⟩, h7⟩ := h
    exact ⟨by omega, by omega, by omega, h7⟩
  · rintro ⟨h1, h2, h3, h4⟩
    simp only [Bool.or_eq_false_iff, decide_eq_false_iff_not, bne_eq_false_iff_eq]
    exact ⟨⟨⟨⟨⟨⟨by omega, by omega⟩, by omega⟩, by omega⟩, by omega⟩, by omega⟩, h4⟩
theorem cI_tr : ∀ a b c : Cli, cI a b < 0 → cI b c < 0 → cI a c < 0 := fun a b c h1 h2 => by unfold cI at *; omega
theorem riseC_iff {l : List Cli} : rising cI l = true ↔ RiseC l := by
  rw [rising_iff cI_tr]
  unfold RiseC
  constructor <;> exact fun h => h.imp fun h => by unfold cI at *; omega
theorem checkM_iff {m : Mach} : checkM m = 0 ↔ OkM m := by
  unfold checkM
  constructor
  · intro h
    split at h
    · cases h
    · rename_i h1
      simp only [not_or] at h1
      split at h
      · cases h
      · rename_i h2
        split at h
        · rename_i h3
          refine ⟨checkS_iff.1 (Classical.not_not.1 h1.1), by omega, by omega, fun x hx => badC_iff.1 ?_, riseC_iff.1 h3⟩
          cases hb : badC m.next m.sto.now x with
          | false => rfl
          | true => exact absurd (List.any_eq_true.2 ⟨x, hx, hb⟩) h2
        · cases h
  · rintro ⟨h1, h2, h3, h4, h5⟩
    rw [if_neg, if_neg, if_pos (riseC_iff.2 h5)]
    · intro h
      obtain ⟨x, hx, hb⟩ := List.any_eq_true.1 h
      rw [badC_iff.2 (h4 x hx)] at hb; cases hb
    · simp only [not_or]
      exact ⟨fun h => h (checkS_iff.2 h1), by omega, by omega, by omega⟩
theorem checkR_iff {r : Rep} : checkR r = 0 ↔ OkR r := by
  unfold checkR checkReply
  constructor
  · intro h
    repeat' split at h
    all_goals first | (cases h; done) | skip
    rename_i h1 h2 h3 h4 h5 h6 h7
    simp only [decide_eq_true_eq] at h1 h2 h3 h4 h6 h7
    refine ⟨by omega, by unfold okText; simp; omega, by omega, fun s hs => ?_, by unfold okCount; simp; omega⟩
    unfold okText
    simp only [decide_eq_true_eq]
    apply Classical.not_not.1
    intro hh
    exact h5 (List.any_eq_true.2 ⟨s, hs, by simp; omega⟩)
  · rintro ⟨h1, h2, h3, h4, h5⟩
    unfold okText at h2 h4
    unfold okCount at h5
    simp only [decide_eq_true_eq, Bool.and_eq_true] at h2 h4 h5
    have ha : ¬ (r.list.any fun s => decide (20 < (s.size : Int))) = true := fun h => by
      obtain ⟨s, hs, hb⟩ := List.any_eq_true.1 h
      have := h4 s hs
      simp at hb; omega
    rw [if_neg (by simp; omega), if_neg (by simp; omega), if_neg (by simp; omega), if_neg (by simp; omega), if_neg ha, if_neg (by simp; omega), if_neg (by simp; omega)]
theorem oldest_lt (all : List Cli) : ∀ (r : List Cli) (old i : Nat), old < all.length → i + r.length ≤ all.length → oldest all old i r < all.length
  | [], old, _, h, _ => h
  | x :: r, old, i, h, hi => by
    unfold oldest
    simp only [List.length_cons] at hi
    refine oldest_lt all r _ (i + 1) ?_ (by omega)
    split
    · split <;> omega
    · exact h
theorem RiseC.sub {l l' : List Cli} (h : RiseC l) (hs : l'.Sublist l) : RiseC l' := List.Pairwise.sublist hs h
theorem open_ok {m : Mach} (h : OkM m) : OkM (openM m).1 ∧ OkR (openM m).2 := by
  unfold openM
  by_cases hn : 1048576 < m.next
  · rw [if_pos hn]; exact ⟨h, fail_ok (by omega) (by omega)⟩
  · rw [if_neg hn]
    obtain ⟨L, hL⟩ : ∃ L, (if m.clis.length = 4 then delAt m.clis (oldest m.clis 0 0 m.clis) else m.clis) = L := ⟨_, rfl⟩
    have hsub : L.Sublist m.clis ∧ L.length ≤ 3 := by
      rw [← hL]
      split
      · rename_i h4
        have hlt := oldest_lt m.clis m.clis 0 0 (by omega) (by omega)
        exact ⟨del_sub _ _, by have := delE_len hlt; omega⟩
      · exact ⟨List.Sublist.refl _, by have := h.len; omega⟩
    rw [hL]
    have hnx := h.next
    have hnow := h.sto.now
    refine ⟨⟨h.sto, ⟨by show 1 ≤ m.next + 1; omega, by show m.next + 1 ≤ 1048577; omega⟩, by show (L ++ [_]).length ≤ 4; rw [List.length_append]; simp; omega, fun x hx => ?_, ?_⟩, told_small (by omega) (by omega)⟩
    · rcases List.mem_append.1 hx with hx | hx
      · have ho := h.all x (hsub.1.subset hx)
        exact ⟨⟨ho.id.1, by have := ho.id.2; show x.id < m.next + 1; omega⟩, ho.seq, ho.time, ho.reply⟩
      · simp only [List.mem_singleton] at hx
        subst hx
        exact ⟨⟨hnx.1, by show m.next < m.next + 1; omega⟩, ⟨Int.le_refl _, by show (0 : Int) ≤ 1048576; omega⟩, ⟨hnow.1, Int.le_refl _⟩, checkR_iff.2 (told_small (by omega) (by omega))⟩
    · refine List.pairwise_append.2 ⟨h.rise.sub hsub.1, List.pairwise_singleton _ _, fun a ha b hb => ?_⟩
      simp only [List.mem_singleton] at hb
      subst hb
      exact (h.all a (hsub.1.subset ha)).id.2
theorem later_ok {m : Mach} (h : OkM m) {s : Sto} (hs : OkS s) (hn : m.sto.now ≤ s.now) : OkM ⟨s, m.next, m.clis⟩ :=
  ⟨hs, h.next, h.len, fun x hx => by have ho := h.all x hx; exact ⟨ho.id, ho.seq, ⟨ho.time.1, Int.le_trans ho.time.2 hn⟩, ho.reply⟩, h.rise⟩
theorem call_cmd {c : Cal} (h : checkCl c = 0) (hc : c.client ≠ 0) : okNumber c.client = true ∧ okNumber c.seq = true ∧ checkC c.cmd = 0 := by
  unfold checkCl checkCall at h
  rw [if_neg (by simpa using hc)] at h
  split at h
  · rename_i h1
    split at h
    · rename_i h2; exact ⟨h1, h2, h⟩
    · cases h
  · cases h
theorem call_ok {m : Mach} (h : OkM m) {t : Int} (h0 : 0 ≤ t) (h1 : t ≤ 1073741824) {c : Cal} (hc : checkCl c = 0) : OkM (callM m t c).1 ∧ OkR (callM m t c).2 := by
  unfold callM
  by_cases hz : c.client = 0
  · rw [if_pos hz]; exact open_ok h
  · rw [if_neg hz]
    obtain ⟨n1, n2, hcc⟩ := call_cmd hc hz
    by_cases hf : findC m.clis c.client < 0
    · rw [if_pos hf]; exact ⟨h, fail_ok (by omega) (by omega)⟩
    · rw [if_neg hf]
      cases hx : m.clis[(findC m.clis c.client).toNat]? with
      | none => exact ⟨h, fail_ok (by omega) (by omega)⟩
      | some x =>
        have hm := List.mem_of_getElem? hx
        have ho := h.all x hm
        simp only
        by_cases e1 : c.seq = x.seq
        · rw [if_pos e1]; exact ⟨h, checkR_iff.1 ho.reply⟩
        · rw [if_neg e1]
          by_cases e2 : c.seq ≠ x.seq + 1
          · rw [if_pos e2]; exact ⟨h, fail_ok (by omega) (by omega)⟩
          · rw [if_neg e2]
            have hr := apply_okR h.sto h0 h1 hcc
            obtain ⟨e, ok⟩ := apply_ok h.sto h0 h1 hcc
            have hnow : m.sto.now ≤ (ApplyS m.sto t c.cmd).1.now := by rw [e]; exact (maxI_le _ _).1
            have okS : OkS (ApplyS m.sto t c.cmd).1 := by rw [e]; exact ok
            obtain ⟨S, hS⟩ : ∃ S, (ApplyS m.sto t c.cmd).1 = S := ⟨_, rfl⟩
            rw [hS] at hnow okS ⊢
            have hl := later_ok h okS hnow
            have hlt := (List.getElem?_eq_some_iff.1 hx).1
            have hxe := (List.getElem?_eq_some_iff.1 hx).2
            unfold okNumber at n2
            simp only [Bool.and_eq_true, decide_eq_true_eq] at n2
            refine ⟨⟨okS, h.next, by show (m.clis.set _ _).length ≤ 4; rw [List.length_set]; exact h.len, fun y hy => ?_, ?_⟩, hr⟩
            · rcases List.mem_or_eq_of_mem_set hy with hy | hy
              · exact hl.all y hy
              · subst hy
                exact ⟨ho.id, ⟨by show 0 ≤ c.seq; omega, n2.2⟩, ⟨okS.now.1, Int.le_refl _⟩, checkR_iff.2 hr⟩
            · have hri := h.rise
              unfold RiseC at hri ⊢
              rw [← List.pairwise_map (f := Cli.id) (R := fun a b => a < b)] at hri ⊢
              have : (m.clis.set (findC m.clis c.client).toNat ⟨x.id, c.seq, S.now, (ApplyS m.sto t c.cmd).2.1⟩).map Cli.id = m.clis.map Cli.id := by
                rw [List.map_set]
                refine List.ext_getElem? fun q => ?_
                rw [List.getElem?_set]
                split
                · rename_i hq
                  subst hq
                  rw [if_pos (by rw [List.length_map]; exact hlt), List.getElem?_map, hx]; rfl
                · rfl
              show ((m.clis.set (findC m.clis c.client).toNat ⟨x.id, c.seq, S.now, (ApplyS m.sto t c.cmd).2.1⟩).map Cli.id).Pairwise _
              rw [this]; exact hri
theorem do_ok {m : Mach} (h : OkM m) {t : Int} (h0 : 0 ≤ t) (h1 : t ≤ 1073741824) {c : Cal} (hc : checkCl c = 0) :
    DoM m t c = ((callM ⟨⟨maxI m.sto.now t, aliveS (maxI m.sto.now t) m.sto⟩, m.next, m.clis⟩ t c).1, (callM ⟨⟨maxI m.sto.now t, aliveS (maxI m.sto.now t) m.sto⟩, m.next, m.clis⟩ t c).2, 0) ∧
      OkM ⟨⟨maxI m.sto.now t, aliveS (maxI m.sto.now t) m.sto⟩, m.next, m.clis⟩ ∧ OkM (DoM m t c).1 ∧ OkR (DoM m t c).2.1 := by
  obtain ⟨e, ok⟩ := apply_ok h.sto h0 h1 keysC_ok
  rw [doE_keys] at e ok
  have hmid := later_ok h ok (maxI_le _ _).1
  have hd : DoM m t c = ((callM ⟨⟨maxI m.sto.now t, aliveS (maxI m.sto.now t) m.sto⟩, m.next, m.clis⟩ t c).1, (callM ⟨⟨maxI m.sto.now t, aliveS (maxI m.sto.now t) m.sto⟩, m.next, m.clis⟩ t c).2, 0) := by
    unfold DoM
    rw [if_neg (by rw [checkM_iff.2 h]; simp), if_neg (by omega), if_neg (by rw [hc]; simp), e]
  obtain ⟨c1, c2⟩ := call_ok hmid h0 h1 hc
  rw [hd]
  exact ⟨rfl, hmid, c1, c2⟩
def newM : Mach := ⟨zeroS, 1, []⟩
end Go.Proofs.YtpdcfljbabpakaaGreatDoor
set_option linter.unusedVariables false
set_option linter.unusedSimpArgs false
set_option maxRecDepth 100000
set_option maxHeartbeats 8000000
namespace Go.Proofs.YtpdcfljbabpakaaGreatDoor
open Go Go.RowKit Go.Proofs.AE
variable {G : Nat → AV}
def bR (l : List UInt8) : List (List V) := l.map fun b => [.lit (.int .u8 b.toNat)]
theorem bR_app (a b : List UInt8) : bR (a ++ b) = bR a ++ bR b := by simp [bR]
theorem bR_len (a : List UInt8) : (bR a).length = a.length := by simp [bR]
theorem bR_ul (a : List UInt8) : UL 1 (bR a) := by
  intro r hr
  obtain ⟨b, _, rfl⟩ := List.mem_map.1 hr
  rfl
theorem bR_str (s : ByteArray) : AE.strRows s = bR s.data.toList := rfl
theorem bR_bytes : ∀ l : List UInt8, bytesOf (bR l) = some l
  | [] => rfl
  | b :: l => by
    have := bR_bytes l
    unfold bR at this ⊢
    simp only [List.map_cons, bytesOf, AE.byteOf, this]
    simp
def byteAt' (u s : Nat) : UInt8 := UInt8.ofNat (u / 2 ^ s)
def numU (n : Int) : Nat := (n + 4611686018427387904).toNat
def numB (n : Int) : List UInt8 := [byteAt' (numU n) 56, byteAt' (numU n) 48, byteAt' (numU n) 40, byteAt' (numU n) 32, byteAt' (numU n) 24, byteAt' (numU n) 16, byteAt' (numU n) 8, byteAt' (numU n) 0]
def smallB (n : Int) : UInt8 := UInt8.ofNat (n % 256).toNat
def textB (s : ByteArray) : List UInt8 := smallB s.size :: s.data.toList
theorem wrap_u8 (n : Int) : IntKind.u8.wrap n = ((smallB n).toNat : Int) := by
  unfold smallB
  have h1 := Int.emod_nonneg n (b := 256) (by omega)
  have h2 := Int.emod_lt_of_pos n (b := 256) (by omega)
  rw [UInt8.toNat_ofNat']
  have h3 : IntKind.u8.wrap n = n % 256 := by
    simp [IntKind.wrap, IntKind.bits, IntKind.signed]
  rw [h3]
  omega
theorem byte_row (u s : Nat) : IntKind.u8.wrap ((u : Int).fdiv (2 ^ s)) = ((byteAt' u s).toNat : Int) := by
  rw [wrap_u8]
  unfold smallB byteAt'
  have h : ((u : Int).fdiv (2 ^ s)) = ((u / 2 ^ s : Nat) : Int) := by
    rw [Int.fdiv_eq_ediv_of_nonneg _ (by exact_mod_cast Nat.zero_le _)]
    push_cast
    rfl
  rw [h]
  congr 1
  have h2 : (((u / 2 ^ s : Nat) : Int) % 256).toNat = (u / 2 ^ s) % 256 := by omega
  rw [h2]
  rw [UInt8.toNat_ofNat', UInt8.toNat_ofNat']
  omega
def inNum (n : Int) : Prop := -4611686018427387904 ≤ n ∧ n < 4611686018427387904
theorem numU_conv {n : Int} (h : inNum n) : IntKind.u64.wrap (IntKind.i64.wrap (n + 4611686018427387904)) = (numU n : Int) := by
  unfold inNum at h
  rw [IntWalk.i64_in _ (by omega)]
  unfold numU
  simp [IntKind.wrap, IntKind.bits, IntKind.signed]
  omega
abbrev wHp (l : List UInt8) : Hp := [some (.box 112 [.ar 1]), some (.arr 5 1 (bR l))]
theorem wsmall_c (l : List UInt8) (n : Int) (hl : l.length ≤ 1000000) : DetCall Tryz.prog G 50 1 (wHp l) [.one (.ptr 0 0), iV n] (.tup []) (wHp (l ++ [smallB n])) := by
  refine gcallc mixed Tryz.func50 ac_wire_writer_small ?_
  have h1 := bR_len l
  have h2 := bR_ul l
  have h3 := bR_app l [smallB n]
  have h4 : bR [smallB n] = [[.lit (.int .u8 ((smallB n).toNat : Int))]] := rfl
  unfold wHp
  rw [h3, h4]
  have h5 := wrap_u8 n
  repeat' (first | (with_reducible first | refine Cn (fun h => ?_) fun h => ?_ | refine And.intro ?_ ?_ | refine wR ?_ | exact wr _ _ | refine wa ?_ | apply awp_join) | (with_reducible refine CallZ.z ?_) | simp -dsimp [go_sem, h1, h2, h5])
  all_goals first | omega | (simp [UL]; done)
theorem wnumber_c (l : List UInt8) (n : Int) (hl : l.length ≤ 1000000) (hn : inNum n) : DetCall Tryz.prog G 49 1 (wHp l) [.one (.ptr 0 0), iV n] (.tup []) (wHp (l ++ numB n)) := by
  refine gcallc mixed Tryz.func49 ac_wire_writer_number ?_
  have hu := numU_conv hn
  unfold wHp
  repeat' (first | (with_reducible first | refine Cn (fun h => ?_) fun h => ?_ | refine And.intro ?_ ?_ | refine wR ?_ | exact wr _ _ | refine wa ?_ | apply awp_join) | (with_reducible refine CallZ.z ?_) | simp -dsimp [go_sem, hu])
  refine awp_loop (fun j : Nat => ⟨[(0, .one (.ptr 0 0)), (4, .one (.v (.lit (.int .u64 (numU n))))), (5, iV (56 - 8 * j))], G, wHp (l ++ (numB n).take j)⟩) (fun j => j ≤ 8) (fun j => 8 - j) 0 (weak_auto ?_) (Nat.zero_le _) ?_
  · unfold wHp
    simp -dsimp [go_sem]
  · intro j hj
    have h1 := bR_len (l ++ (numB n).take j)
    have h2 := bR_ul (l ++ (numB n).take j)
    have hlen : (l ++ (numB n).take j).length ≤ 1000008 := by simp; omega
    unfold wHp
    simp -dsimp [go_sem]
    refine Cnd.intro (fun h => ?_) (fun h => ?_)
    · have hlt : j < 8 := by simp at h; omega
      have e1 : IntKind.i64.wrap (56 - 8 * (j : Int) - 8) = 56 - 8 * ((j + 1 : Nat) : Int) := by rw [IntWalk.i64_in _ (by omega)]; omega
      have e2 : IntKind.u8.wrap ((numU n : Int).fdiv (2 ^ min (56 - 8 * (j : Int)).toNat 64)) = ((byteAt' (numU n) (56 - 8 * j)).toNat : Int) := by
        rw [show min (56 - 8 * (j : Int)).toNat 64 = 56 - 8 * j by omega]; exact byte_row _ _
      have e3 : bR (l ++ (numB n).take (j + 1)) = bR (l ++ (numB n).take j) ++ [[.lit (.int .u8 ((byteAt' (numU n) (56 - 8 * j)).toNat : Int))]] := by
        have : (numB n).take (j + 1) = (numB n).take j ++ [byteAt' (numU n) (56 - 8 * j)] := by
          have hc : j = 0 ∨ j = 1 ∨ j = 2 ∨ j = 3 ∨ j = 4 ∨ j = 5 ∨ j = 6 ∨ j = 7 := by omega
          rcases hc with rfl | rfl | rfl | rfl | rfl | rfl | rfl | rfl <;> rfl
        rw [this, ← List.append_assoc, bR_app]; rfl
      repeat' (first | (with_reducible first | refine Cn (fun h => ?_) fun h => ?_ | refine And.intro ?_ ?_ | refine wR ?_ | exact wr _ _ | refine wa ?_ | apply awp_join) | (with_reducible refine CallZ.z ?_) | simp -dsimp [go_sem, h1, h2, e1, e2])
      all_goals first | omega | (with_reducible refine Again.auto (j + 1) ?_ ?_ ?_) | (simp [UL]; done) | skip
      · simp -dsimp [go_sem, e3]
      · exact hlt
      · show 8 - (j + 1) < 8 - j
        omega
    · have hj8 : j = 8 := by simp at h; omega
      subst hj8
      have e3 : (numB n).take 8 = numB n := rfl
      rw [e3]
      simp -dsimp [go_sem]
theorem wtext_c (l : List UInt8) (t : ByteArray) (hl : l.length ≤ 900000) (ht : t.size ≤ 1000) : DetCall Tryz.prog G 51 1 (wHp l) [.one (.ptr 0 0), sV t] (.tup []) (wHp (l ++ textB t)) := by
  refine gcallc mixed Tryz.func51 ac_wire_writer_text ?_
  have h1 := bR_len (l ++ [smallB t.size])
  have h2 := bR_ul (l ++ [smallB t.size])
  have h3 : bR (l ++ textB t) = bR (l ++ [smallB t.size]) ++ bR t.data.toList := by rw [← bR_app]; simp [textB]
  have h4 := bR_ul t.data.toList
  have h5 := bR_len t.data.toList
  have h6 : t.data.toList.length = t.size := by rw [Array.length_toList]; rfl
  have h7 : (l ++ [smallB t.size]).length ≤ 900001 := by simp; omega
  unfold wHp
  rw [h3]
  repeat' (first | (with_reducible first | refine Cn (fun h => ?_) fun h => ?_ | refine And.intro ?_ ?_ | refine wR ?_ | exact wr _ _ | refine wa ?_ | apply awp_join | refine qg (wsmall_c l _ (by omega)) ?_ | refine qgd (wsmall_c l _ (by omega)) ?_) | (with_reducible refine CallZ.z ?_) | simp -dsimp [go_sem, h1, h2, h4, h5, bR_str])
  all_goals omega
theorem textB_len (t : ByteArray) : (textB t).length = t.size + 1 := by unfold textB; rw [List.length_cons, Array.length_toList]; rfl
theorem numB_len (n : Int) : (numB n).length = 8 := rfl
end Go.Proofs.YtpdcfljbabpakaaGreatDoor
