/- The abstract evaluator: AeRead. -/
import Derived.Test.YtpdcfljbabpakaaAeRow
import Derived.Deep.Slices
import Derived.ChangeStays
import Derived.MapPlaces
import Derived.ChangeBears
/- The abstract evaluator, part 22: what is given from outside: plain data by its type. -/
set_option linter.unusedVariables false
set_option linter.unusedSimpArgs false
namespace Go.Proofs.AE
open Go Go.RowKit

/-- The cells of a value of a type without slices, as the evaluator has them. -/
def WT (P : Program) : Nat → TypeId → List V → Prop
  | 0, _, _ => False
  | n + 1, t, vs => match tiOf P t with
    | none => False
    | some i => match i.sh with
      | .bool => ∃ b, vs = [.lit (.bool b)]
      | .int k => ∃ x, vs = [.lit (.int k x)] ∧ (Lit.int k x).wf = true
      | .string => ∃ s : ByteArray, vs = [.lit (.string s)] ∧ s.size ≤ maxLen
      | .struct fs => vs.length = i.size ∧ ∀ f ∈ fs, ∃ j, tiOf P f.1 = some j ∧ WT P n f.1 ((vs.drop f.2).take j.size)
      | _ => False

/-- Types of plain data without pointers and slices. -/
def flatT (P : Program) : Nat → TypeId → Bool
  | 0, _ => false
  | n + 1, t => match tiOf P t with
    | none => false
    | some i => match i.sh with
      | .bool | .int _ | .string => true
      | .struct fs => fs.all (fun f => flatT P n f.1)
      | _ => false

section
variable {H : Type} {enc : TypeId × Value → H} {P : Program} {w : World} {ok : Nat → Prop} {base : Nat} {spare : Nat → Bool} {held : Bool} {T : TypeId → Prop}

theorem cellsOf_ti {t : TypeId} {i : TI} (h : TIs P t i) : P.cellsOf t = i.size := by
  obtain ⟨j, h1, h2, _⟩ := h.info
  simp [Program.cellsOf, h1, h2]

theorem und_ti {t : TypeId} {i : TI} (h : TIs P t i) : ∃ d, P.underlying t = some d ∧ shOf P d = some i.sh := h.und

theorem flatten_take_drop {α : Type} : ∀ (L : List (List α)) (j : Nat) (l : List α), L[j]? = some l → (L.flatten.drop ((L.take j).map List.length).sum).take l.length = l
  | [], j, l, h => by simp at h
  | x :: L, 0, l, h => by simp at h; subst h; simp
  | x :: L, j + 1, l, h => by
    simp only [List.getElem?_cons_succ] at h
    have := flatten_take_drop L j l h
    simp only [List.take_succ_cons, List.map_cons, List.sum_cons, List.flatten_cons]
    rw [List.drop_append]
    have h1 : (x.drop (x.length + ((L.take j).map List.length).sum)) = [] := List.drop_eq_nil_of_le (by omega)
    rw [h1, List.nil_append, show x.length + ((L.take j).map List.length).sum - x.length = ((L.take j).map List.length).sum by omega]
    exact this

theorem all2_flatten {α β : Type} {R : α → β → Prop} : ∀ {L : List (List α)} {M : List (List β)}, All2 (All2 R) L M → All2 R L.flatten M.flatten
  | _, _, .nil => .nil
  | _, _, .cons h t => h.append (all2_flatten t)

theorem pieces {α : Type} : ∀ (ns : List Nat) (cs : List α), cs.length = ns.sum → ((List.range ns.length).map fun j => (cs.drop (ns.take j).sum).take (ns.getD j 0)).flatten = cs
  | [], cs, h => by simp at h; simp [h]
  | n :: ns, cs, h => by
    rw [List.length_cons, List.range_succ_eq_map, List.map_cons, List.flatten_cons, List.map_map]
    have ih := pieces ns (cs.drop n) (by simp at h ⊢; omega)
    have he : ((fun j => (cs.drop ((n :: ns).take j).sum).take ((n :: ns).getD j 0)) ∘ Nat.succ) = fun j => ((cs.drop n).drop (ns.take j).sum).take (ns.getD j 0) := by
      funext j; simp [List.drop_drop]
    rw [he, ih]
    simp

theorem read_flat (K : Kids P T) : ∀ (n : Nat) (t : TypeId) (fuel : Nat) (cs : List Value) (x : DataW H × List MemPlace), T t → flatT P n t = true → DataW.trod enc P w base spare held fuel t cs = some x →
    ∃ vs, All2 (VRel w ok) vs cs ∧ WT P n t vs := by
  intro n
  induction n with
  | zero => intro t fuel cs x _ h; cases h
  | succ n ih =>
    intro t fuel cs x hT hf h
    simp only [flatT] at hf
    simp only [WT]
    split at hf
    · cases hf
    · rename_i i hi
      have hs := tiOf_spec hi
      obtain ⟨d, hu, hd⟩ := und_ti hs
      split at hf
      · rename_i hsh
        rw [hsh] at hd
        have : P.underlying t = some .bool := by
          rw [hu]; unfold shOf at hd; split at hd <;> first | rfl | (cases hd; done) | (split at hd <;> cases hd; done)
        obtain ⟨b, rfl, _⟩ := DataW.trod_bool this h
        exact ⟨[.lit (.bool b)], .cons (.lit _ rfl) .nil, b, rfl⟩
      · rename_i k hsh
        rw [hsh] at hd
        have : P.underlying t = some (.int k) := by
          rw [hu]; unfold shOf at hd; split at hd <;> first | (cases hd; rfl) | (cases hd; done) | (split at hd <;> cases hd; done)
        obtain ⟨b, rfl, _, hw⟩ := DataW.trod_int this h
        exact ⟨[.lit (.int k b)], .cons (.lit _ rfl) .nil, b, rfl, hw⟩
      · rename_i hsh
        rw [hsh] at hd
        have : P.underlying t = some .string := by
          rw [hu]; unfold shOf at hd; split at hd <;> first | rfl | (cases hd; done) | (split at hd <;> cases hd; done)
        obtain ⟨b, rfl, _, hw⟩ := DataW.trod_string this h
        exact ⟨[.lit (.string b)], .cons (.lit _ rfl) .nil, b, rfl, hw⟩
      · rename_i fs hsh
        rw [hsh] at hd
        obtain ⟨gs, hgu, hgs⟩ : ∃ gs : Array Field, P.underlying t = some (.struct gs) ∧ fs = gs.toList.map fun f => (f.type, f.offset) := by
          unfold shOf at hd
          split at hd <;> first | (cases hd; done) | skip
          rename_i gs
          split at hd
          · cases hd; exact ⟨gs, hu, rfl⟩
          · cases hd
        subst hgs
        obtain ⟨k1, k2, k3⟩ := K.struct hT hgu
        obtain ⟨xs, m, rfl, _, hlen, hxl, hx⟩ := DataW.trod_struct hgu h
        -- the fields' cells
        have hfield : ∀ (j : Nat) (f : Field), gs.toList[j]? = some f → ∃ vs, All2 (VRel w ok) vs ((cs.drop f.offset).take (P.cellsOf f.type)) ∧ WT P n f.type vs ∧ ∃ q, tiOf P f.type = some q ∧ q.size = P.cellsOf f.type := by
          intro j f hj
          have hfa : gs[j]? = some f := by simpa using hj
          have hmem : f ∈ gs.toList := List.mem_of_getElem? hj
          have hfl : flatT P n f.type = true := by
            rw [List.all_eq_true] at hf
            exact hf (f.type, f.offset) (List.mem_map.2 ⟨f, hmem, rfl⟩)
          have hxj := hx j f hfa
          have hjx : j < xs.length := by rw [hxl]; exact (Array.getElem?_eq_some_iff.1 hfa).1
          rw [List.getElem?_eq_getElem hjx] at hxj
          obtain ⟨vs, h1, h2⟩ := ih f.type m _ _ (k1 f hmem) hfl hxj
          refine ⟨vs, h1, h2, ?_⟩
          cases n with
          | zero => cases hfl
          | succ n =>
            simp only [flatT] at hfl
            split at hfl
            · cases hfl
            · rename_i q hq
              exact ⟨q, hq, (cellsOf_ti (tiOf_spec hq)).symm⟩
        let ns := gs.toList.map fun f => P.cellsOf f.type
        have hns : cs.length = ns.sum := by rw [hlen]; exact k2
        have hget : ∀ j : Nat, j < gs.toList.length → ∃ f, gs.toList[j]? = some f := fun j hj => ⟨_, List.getElem?_eq_getElem hj⟩
        -- choose
        have hch : ∀ j : Nat, ∃ vs, ∀ f : Field, gs.toList[j]? = some f → All2 (VRel w ok) vs ((cs.drop f.offset).take (P.cellsOf f.type)) ∧ WT P n f.type vs ∧ ∃ q, tiOf P f.type = some q ∧ q.size = P.cellsOf f.type := by
          intro j
          cases hj : gs.toList[j]? with
          | none => exact ⟨[], fun f h => by cases h⟩
          | some f =>
            obtain ⟨vs, h⟩ := hfield j f hj
            exact ⟨vs, fun f' h' => by cases h'; exact h⟩
        let V := fun j => Classical.choose (hch j)
        have hV : ∀ (j : Nat) (f : Field), gs.toList[j]? = some f → All2 (VRel w ok) (V j) ((cs.drop f.offset).take (P.cellsOf f.type)) ∧ WT P n f.type (V j) ∧ ∃ q, tiOf P f.type = some q ∧ q.size = P.cellsOf f.type := fun j => Classical.choose_spec (hch j)
        let L := (List.range ns.length).map V
        let M := (List.range ns.length).map fun j => (cs.drop (ns.take j).sum).take (ns.getD j 0)
        have hnl : ns.length = gs.toList.length := by simp [ns]
        have hML : All2 (All2 (VRel w ok)) L M := by
          refine All2.of_get (by simp [L, M]) ?_
          intro j a b ha hb
          simp only [L, M, List.getElem?_map] at ha hb
          have hjlt : j < ns.length := by
            rcases Nat.lt_or_ge j ns.length with h | h
            · exact h
            · rw [List.getElem?_eq_none (by simpa using h)] at ha; cases ha
          rw [List.getElem?_range hjlt] at ha hb
          simp only [Option.map_some, Option.some.injEq] at ha hb
          subst ha; subst hb
          obtain ⟨f, hj⟩ := hget j (by omega)
          have e1 : (ns.take j).sum = f.offset := by rw [k3 j f hj]; simp [ns, List.map_take]
          have e2 : ns.getD j 0 = P.cellsOf f.type := by simp [ns, List.getD_eq_getElem?_getD, hj]
          rw [e1, e2]
          exact (hV j f hj).1
        have hMf : M.flatten = cs := pieces ns cs hns
        have hA := all2_flatten hML
        rw [hMf] at hA
        refine ⟨L.flatten, hA, by rw [hA.length, hlen, cellsOf_ti hs], ?_⟩
        intro f hf'
        obtain ⟨g, hg, rfl⟩ := List.mem_map.1 hf'
        obtain ⟨j, hj⟩ := List.getElem?_of_mem hg
        obtain ⟨v1, v2, q, hq, hqs⟩ := hV j g hj
        refine ⟨q, hq, ?_⟩
        have hjlt : j < ns.length := by rw [hnl]; exact lt_of_getElem? hj
        have hLj : L[j]? = some (V j) := by simp [L, hjlt]
        have hlens : ∀ i : Nat, i < ns.length → (V i).length = ns.getD i 0 := by
          intro i hi
          obtain ⟨f, hif⟩ := hget i (by omega)
          have e2 : ns.getD i 0 = P.cellsOf f.type := by simp [ns, List.getD_eq_getElem?_getD, hif]
          rw [(hV i f hif).1.length, e2, List.length_take, List.length_drop]
          have hk := k3 i f hif
          have : ((gs.toList.take i).map fun f => P.cellsOf f.type).sum + P.cellsOf f.type ≤ ns.sum := by
            have h3 : ns = (gs.toList.take i).map (fun f => P.cellsOf f.type) ++ (gs.toList.drop i).map (fun f => P.cellsOf f.type) := by
              rw [← List.map_append, List.take_append_drop]
            rw [h3, List.sum_append]
            have h4 : gs.toList.drop i = f :: gs.toList.drop (i + 1) := by
              have := lt_of_getElem? hif
              rw [List.drop_eq_getElem_cons this]
              rw [List.getElem?_eq_getElem this] at hif
              rw [Option.some.inj hif]
            rw [h4, List.map_cons, List.sum_cons]
            omega
          rw [hns]
          omega
        have hoff : ((L.take j).map List.length).sum = g.offset := by
          rw [k3 j g hj]
          congr 1
          apply List.ext_getElem?
          intro i
          by_cases hi : i < j
          · have hin : i < ns.length := by omega
            obtain ⟨f, hif⟩ := hget i (by omega)
            have e2 : ns.getD i 0 = P.cellsOf f.type := by simp [ns, List.getD_eq_getElem?_getD, hif]
            have hLi : (L.take j)[i]? = some (V i) := by rw [List.getElem?_take_of_lt hi]; simp [L, hin]
            rw [List.getElem?_map, hLi, Option.map_some, hlens i hin, e2, List.getElem?_map, List.getElem?_take_of_lt hi, hif]
            rfl
          · simp [List.getElem?_take, hi]
        have htd := flatten_take_drop L j (V j) hLj
        rw [hoff] at htd
        have : q.size = (V j).length := by
          rw [hqs, hlens j hjlt]; simp [ns, List.getD_eq_getElem?_getD, hj]
        rw [this, htd]
        exact v2
      · cases hf

/-! ### arguments -/
theorem read_struct (K : Kids P T) {n : Nat} {t : TypeId} {fs : Array Field} {v : Value} {d : DataW H} {ps : List MemPlace} {r : Reach} {b0 : Nat} (ht : P.underlying t = some (.struct fs)) (hT : T t) (hf : flatT P n t = true) (hval : Value.okWide P w r b0 t v)
    (h : DataW.Trod enc P w base spare held t v d ps) (ok : Nat → Prop) (μ : List MB) : ∃ vs, AVRel w ok μ (.agg (vs.map .v)) v ∧ WT P n t vs := by
  unfold Value.okWide at hval
  rw [ht] at hval
  obtain ⟨cs, rfl, _, _⟩ := hval
  obtain ⟨fuel, hfu⟩ := h
  obtain ⟨vs, h1, h2⟩ := read_flat (ok := ok) K n t fuel _ _ hT hf hfu
  exact ⟨vs, .agg (All2.map_left (h1.mono fun _ _ h => .v h)), h2⟩

theorem read_slice (K : Kids P T) {n : Nat} {t e : TypeId} {v : Value} {d : DataW H} {ps : List MemPlace} {r : Reach} {b0 : Nat} (ht : P.underlying t = some (.slice e)) (hT : T t) (hf : flatT P n e = true) (hpos : 0 < P.cellsOf e) (hval : Value.okWide P w r b0 t v)
    (h : DataW.Trod enc P w base spare held t v d ps) (μ : List MB) : ∃ rows, AVRel w (fun b => b < w.heap.size) μ (.one (.v (.sl rows))) v ∧ rows.length ≤ maxLen ∧ ∀ r ∈ rows, WT P n e r := by
  have hc : Cell.ok P w r b0 t v := by
    unfold Value.okWide at hval
    rw [ht] at hval
    simp only [Cell.okWide, ht] at hval
    exact hval
  have hv : v = .slice none 0 0 ∨ ∃ a len cap, v = .slice (some a) len cap ∧ a.spot = none := by
    unfold Cell.ok at hc
    rw [ht] at hc
    split at hc <;> first | (exact hc.elim) | skip
    all_goals (rename_i h1; first | (cases h1; done) | skip)
    · exact .inl rfl
    · exact .inr ⟨_, _, _, rfl, hc.2.2.2.1⟩
  obtain ⟨fuel, hfu⟩ := h
  rcases hv with rfl | ⟨a, len, cap, rfl, hspot⟩
  · exact ⟨[], .one (.v .nil), by simp [maxLen], fun r h => by cases h⟩
  · rcases Go.Deep.open_slice ht hfu with ⟨h1, _⟩ | ⟨a', len', cap', m, n', D, Pl, h1, hb, hle, hcap, hm, _, hel⟩
    · simp [Value.cells] at h1
    · simp only [Value.cells] at h1
      obtain ⟨rfl, rfl, rfl⟩ : a = a' ∧ len = len' ∧ cap = cap' := by simpa using h1
      have hlm : len ≤ m := by rw [hm]; split <;> omega
      have hT' : T e := K.slice hT ht
      have hch : ∀ i, ∃ vs cs', i < len → w.cells? base (a.add (i * P.cellsOf e)) (P.cellsOf e) = some cs' ∧ All2 (VRel w (fun b => b < w.heap.size)) vs cs' ∧ WT P n e vs := by
        intro i
        by_cases hi : i < len
        · obtain ⟨cs', h2, h3⟩ := hel i (by omega)
          obtain ⟨vs, h4, h5⟩ := read_flat (ok := fun b => b < w.heap.size) K n e n' _ _ hT' hf h3
          exact ⟨vs, cs', fun _ => ⟨h2, h4, h5⟩⟩
        · exact ⟨[], [], fun h => (hi h).elim⟩
      let R := fun i => Classical.choose (hch i)
      have hR : ∀ i, ∃ cs', i < len → w.cells? base (a.add (i * P.cellsOf e)) (P.cellsOf e) = some cs' ∧ All2 (VRel w (fun b => b < w.heap.size)) (R i) cs' ∧ WT P n e (R i) := fun i => Classical.choose_spec (hch i)
      have hlen : ((List.range len).map R).length = len := by simp
      have hget : ∀ (i : Nat) row, ((List.range len).map R)[i]? = some row → i < len ∧ row = R i := by
        intro i row h
        have hi : i < len := by have := lt_of_getElem? h; simpa using this
        rw [List.getElem?_map, List.getElem?_range hi] at h
        exact ⟨hi, (Option.some.inj h).symm⟩
      have hcell : ∀ (i : Nat) row (j : Nat) v, ((List.range len).map R)[i]? = some row → row[j]? = some v → ∃ y, w.cell? ⟨a.block, a.off + (i * row.length + j), none⟩ = some y ∧ VRel w (fun b => b < w.heap.size) v y := by
        intro i row j v h1 h2
        obtain ⟨hi, rfl⟩ := hget i row h1
        obtain ⟨cs', hcs⟩ := hR i
        obtain ⟨c1, c2, _⟩ := hcs hi
        obtain ⟨_, hl, hc'⟩ := World.cells?_some c1
        obtain ⟨y, hy, hr⟩ := c2.get h2
        have hj : j < P.cellsOf e := by rw [← hl, ← c2.length]; exact lt_of_getElem? h2
        refine ⟨y, ?_, hr⟩
        have := hc' j hj
        rw [hy] at this
        have hrow : (R i).length = P.cellsOf e := by rw [c2.length, hl]
        rw [hrow, ← this]
        congr 1
        obtain ⟨ab, ao, asp⟩ := a
        simp only at hspot
        subst hspot
        unfold Addr.add
        split
        · rename_i h0
          split
          · rename_i h0'
            have : i * P.cellsOf e = 0 := h0'
            simp [this, h0]
          · simp [h0]
        · split
          · rename_i h0'
            have : i * P.cellsOf e = 0 := h0'
            simp [this]
          · simp [Nat.add_assoc]
      refine ⟨(List.range len).map R, .one (.v ?_), by rw [hlen]; omega, fun r hr => ?_⟩
      · obtain ⟨ab, ao, asp⟩ := a
        simp only at hspot
        subst hspot
        have hsl := VRel.sl (w := w) (ok := fun b => b < w.heap.size) ((List.range len).map R) ab ao cap
          (fun i j => match ((List.range len).map R)[i]? with | some row => (w.cell? ⟨ab, ao + (i * row.length + j), none⟩).getD undef | none => undef) (fun hne => ?_) (by rw [hlen]; exact hle) hcap ?_ ?_
        · rw [hlen] at hsl; exact hsl
        · -- a row is there
          have h0 : 0 < len := by
            cases len with
            | zero => simp at hne
            | succ l => omega
          obtain ⟨cs', hcs⟩ := hR 0
          obtain ⟨c1, _, _⟩ := hcs h0
          obtain ⟨_, hl, hc'⟩ := World.cells?_some c1
          have := hc' 0 hpos
          have hx : w.cell? (⟨ab, ao, none⟩ : Addr) = cs'[0]? := by simpa [Addr.add] using this
          rw [List.getElem?_eq_getElem (by omega)] at hx
          unfold World.cell? at hx
          split at hx
          · rename_i hb2; exact (Array.getElem?_eq_some_iff.1 hb2).1
          · cases hx
        · intro i row j v h1 h2
          obtain ⟨y, hy, _⟩ := hcell i row j v h1 h2
          simp only at hy
          simp [h1, hy]
        · intro i row j v h1 h2
          obtain ⟨y, hy, hr⟩ := hcell i row j v h1 h2
          simp only at hy
          simp only [h1, hy, Option.getD_some]
          exact hr
      · obtain ⟨i, hi, rfl⟩ := List.mem_map.1 hr
        obtain ⟨cs', hcs⟩ := hR i
        exact (hcs (List.mem_range.1 hi)).2.2

theorem below_cell {w w' : World} {B : Nat} (hb : Below B w w') {a : Addr} (h : a.block < B) : w'.cell? a = w.cell? a := by
  unfold World.cell?
  rw [hb.block a.block h]

theorem good_lt {p : MemPlace} (h : Good w p) : p.block < w.heap.size := by
  cases p with
  | cell b off =>
    obtain ⟨v, h, _⟩ := h
    unfold World.cell? at h
    split at h
    · rename_i hb; exact (Array.getElem?_eq_some_iff.1 hb).1
    · cases h
  | map b =>
    obtain ⟨es, c, h⟩ := h
    exact (Array.getElem?_eq_some_iff.1 h).1

theorem trodAll_later (K : Kids P T) (hsz : ∀ {t e : TypeId}, T t → P.underlying t = some (.slice e) → 0 < P.cellsOf e) {w' : World} (hb : Below w.heap.size w w') :
    ∀ {ts : List TypeId} {vs : List Value} {ds : List (DataW H)} {ps : List MemPlace}, (∀ t ∈ ts, T t) → DataW.TrodAll enc P w base (fun _ => true) true ts vs ds ps → DataW.TrodAll enc P w' base (fun b => decide (b < w.heap.size)) true ts vs ds ps
  | [], [], [], _, _, h => h
  | t :: ts, v :: vs, d :: ds, _, hT, ⟨p, q, ⟨fuel, h1⟩, h2, h3⟩ => by
    have hg := DataW.trod_good K (fun h => by cases h) fuel t _ _ (hT t (List.mem_cons_self ..)) h1
    refine ⟨p, q, ⟨fuel, DataW.trod_stays K hsz (fun h => by cases h) (hT t (List.mem_cons_self ..)) h1 (fun x hx => ?_) fun x hx => ?_⟩, trodAll_later K hsz hb (fun t ht => hT t (List.mem_cons_of_mem _ ht)) h2, h3⟩
    · have := good_lt (hg x hx)
      cases x with
      | cell b off => exact below_cell hb this
      | map b => exact hb.block b this
    · simpa using good_lt (hg x hx)
  | [], _ :: _, _, _, _, h => by simp [DataW.TrodAll] at h
  | _ :: _, [], _, _, _, h => by simp [DataW.TrodAll] at h
  | [], [], _ :: _, _, _, h => by simp [DataW.TrodAll] at h
  | _ :: _, _ :: _, [], _, _, h => by simp [DataW.TrodAll] at h

/-- No slice of elements without cells. -/
def slicesOk (P : Program) : Bool := (List.range P.types.size).all fun t => match P.underlying t with | some (.slice e) => decide (0 < P.cellsOf e) | _ => true
theorem slicesOk_spec (h : slicesOk P = true) {t e : TypeId} (ht : t < P.types.size) (hu : P.underlying t = some (.slice e)) : 0 < P.cellsOf e := by
  unfold slicesOk at h
  rw [List.all_eq_true] at h
  have := h t (List.mem_range.2 ht)
  rw [hu] at this
  simpa using this

theorem WT_struct {n : Nat} {t : TypeId} {i : TI} {fs : List (Nat × Nat)} {vs : List V} (hi : tiOf P t = some i) (hs : i.sh = .struct fs) (h : WT P (n + 1) t vs) : vs.length = i.size ∧ ∀ f ∈ fs, ∃ j, tiOf P f.1 = some j ∧ WT P n f.1 ((vs.drop f.2).take j.size) := by
  simp only [WT, hi, hs] at h
  exact h
end
end Go.Proofs.AE

