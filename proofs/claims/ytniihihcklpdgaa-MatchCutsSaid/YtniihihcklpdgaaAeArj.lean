/- The abstract evaluator, part 11b: own arrays of known room, and parts of them. -/
import Derived.Test.YtniihihcklpdgaaAeHeap3
import Derived.Lib.AppendZerosOnto
import Derived.Lib.Overlaps
set_option linter.unusedVariables false
set_option linter.unusedSimpArgs false
namespace Go.Proofs.AE
open Go Go.RowKit

/-- Own memory of known room somewhere. -/
def hasArj : Hp → Bool
  | [] => false
  | some (.arj _ _ _ _) :: _ => true
  | _ :: r => hasArj r

/-- A part of own memory: of a slice expression. -/
def sliceJ (k : Nat) (hp : Hp) (v : AV) (lo hi mx : Option AV) : Option (Prop × AV) :=
  match v with
  | .one (.sub i k' off len) => match hp[i]? with
    | some (some (.arj _ k'' c _)) => if k' = k ∧ k'' = k then
        match boundAV 0 lo, boundAV len hi with
        | some l, some h => match mx with
          | none => some (0 ≤ l ∧ l ≤ h ∧ off + h ≤ c, .one (.sub i k (off + l.toNat) (h.toNat - l.toNat)))
          | some m => match intOfAV m, hi with
            | some m, some _ => some (0 ≤ l ∧ l ≤ h ∧ h ≤ m ∧ off + m ≤ c, .any)
            | _, _ => none
        | _, _ => none
      else none
    | _ => none
  | .one (.ar i) => match hp[i]? with
    | some (some (.arr _ k' rows)) => if k' = k then
        match boundAV 0 lo, boundAV rows.length hi, mx with
        | some l, some h, none => some (0 ≤ l ∧ l ≤ h ∧ h ≤ rows.length, .one (.sub i k l.toNat (h.toNat - l.toNat)))
        | _, _, _ => none
      else none
    | _ => none
  | _ => none

/-- What a copy or an append reads: how many there are, and the rows that are known of them. -/
def srcJ (k : Nat) (hp : Hp) (v : AV) : Option (Nat × List (List V)) :=
  match v with
  | .one (.sub i k' off len) => match hp[i]? with
    | some (some (.arj _ k'' _ rows)) => if k' = k ∧ k'' = k then some (len, rows.drop off) else none
    | _ => none
  | _ => (rowsOf hp v).map fun r => (r.length, r)

def wrRows (rows new : List (List V)) (off : Nat) : List (List V) := rows.take off ++ new ++ rows.drop (off + new.length)

/-- The library's own word: that these two do not overlap. -/
def OvlF (P : Program) (g : Nat) (e : TypeId) : Prop :=
  ∃ fn tS tR, P.funcs[g]? = some fn ∧ (fn.name == "runtime.NumGoroutine") = false ∧ fn.body.isNone = true ∧ Extern.findNext fn = none ∧ Extern.find fn = some (Extern.SlicesOverlaps.overlaps #[tS, tS] #[tR]) ∧ P.underlying tS = some (.slice e)

def arjOp (P : Program) (hp : Hp) (ev : Operand → AV) : Op → Option (Prop × AV × Hp)
  | .slice t x lo hi mx => match (tiOf P t).map TI.sh with
    | some (.slice e) => match tiOf P e with
      | some j => (sliceJ j.size hp (ev x) (lo.map ev) (hi.map ev) (mx.map ev)).map fun (p, v) => (p, v, hp)
      | none => none
    | _ => none
  | .call { callee := .builtin .len, args := args, argTypes := ts } => match args.toList, ts.toList with
    | [x], [t] => match (tiOf P t).map TI.sh, ev x with
      | some (.slice _), .one (.sub i k off len) => some (True, .one (.v (.lit (.int .i64 (len : Int)))), hp)
      | _, _ => none
    | _, _ => none
  | .call { callee := .builtin .cap, args := args, argTypes := ts } => match args.toList, ts.toList with
    | [x], [t] => match (tiOf P t).map TI.sh, ev x with
      | some (.slice _), .one (.sub i k off len) => match hp[i]? with
        | some (some (.arj _ _ c _)) => some (True, .one (.v (.lit (.int .i64 ((c - off : Nat) : Int)))), hp)
        | _ => none
      | _, _ => none
    | _, _ => none
  | .call { callee := .builtin .clear, args := args, argTypes := ts } => match args.toList, ts.toList with
    | [x], [t] => match (tiOf P t).map TI.sh, ev x with
      | some (.slice e), .one (.sub i k off len) => match hp[i]?, tiOf P e with
        | some (some (.arj e' k' c rows)), some j => if k = j.size ∧ k' = k then
            some (off + len ≤ rows.length, .any, hp.set i (some (.arj e' k' c (wrRows rows (List.replicate len j.zero) off)))) else none
        | _, _ => none
      | _, _ => none
    | _, _ => none
  | .call { callee := .builtin .copy, args := args, argTypes := ts } => match args.toList, ts.toList with
    | [d, x], [t, u] => match (tiOf P t).map TI.sh, ev d with
      | some (.slice e), .one (.sub i k off len) => match hp[i]?, tiOf P e with
        | some (some (.arj e' k' c rows)), some j => if k = j.size ∧ k' = k then match srcJ k hp (ev x) with
            | some (n, av) => some (UL k av ∧ min n len ≤ av.length ∧ off ≤ rows.length ∧ off + len ≤ c, .one (.v (.lit (.int .i64 (min n len : Nat)))), hp.set i (some (.arj e' k' c (wrRows rows (av.take (min n len)) off))))
            | none => none
          else none
        | some (some (.arr e' k' rows)), some j => if k = j.size ∧ k' = k then match srcJ k hp (ev x) with
            | some (n, av) => some (UL k av ∧ min n len ≤ av.length ∧ off + len ≤ rows.length, .one (.v (.lit (.int .i64 (min n len : Nat)))), hp.set i (some (.arr e' k' (wrRows rows (av.take (min n len)) off))))
            | none => none
          else none
        | _, _ => none
      | _, _ => none
    | _, _ => none
  | .call { callee := .builtin .append, args := args, argTypes := ts } => match args.toList, ts.toList with
    | [s, x], [t, u] => match (tiOf P t).map TI.sh, ev s with
      | some (.slice e), .one (.sub i k off len) => match hp[i]?, tiOf P e with
        | some (some (.arj e' k' c rows)), some j => if k = j.size ∧ k' = k ∧ e' = e then match (tiOf P u).map TI.sh, ev x with
            | some (.int _), .one (.v (.lit (.int _ n))) =>
              some (0 < n ∧ off + len ≤ rows.length ∧ c < off + len + n ∧ len + n ≤ 9223372036854775807 ∧ (len + n) * j.bytes ≤ 140737488355328, .one (.ar hp.length), hp ++ [some (.arr e k ((rows.drop off).take len ++ List.replicate n.toNat j.zero))])
            | some (.slice _), .one (.sub i2 k2 off2 len2) => if t = u ∧ i2 = i ∧ k2 = k then
                some (off = 0 ∧ len ≤ rows.length ∧ off2 + len2 ≤ rows.length ∧ len + len2 ≤ c, .one (.sub i k off (len + len2)), hp.set i (some (.arj e' k' c (wrRows rows ((rows.drop off2).take len2) len))))
              else none
            | some (.slice _), vx => if t = u then match rowsOf hp vx with
                | some new => some (UL k new ∧ off = 0 ∧ len ≤ rows.length ∧ len + new.length ≤ 9223372036854775807 ∧ (len + new.length) * j.bytes ≤ 140737488355328, .one (.ar hp.length), hp.set i none ++ [some (.arr e k (rows.take len ++ new))])
                | none => none
              else none
            | _, _ => none
          else none
        | _, _ => none
      | _, _ => none
    | _, _ => none
  | .call { callee := .value fo, args := args, argTypes := _ } => match ev fo, args.toList with
    | .fn g [] [], [x, y] => match ev x, ev y with
      | .one (.ar i), .one (.sub j k off len) => match hp[i]?, hp[j]? with
        | some (some (.arr e k' rows)), some (some (.arj e' k'' c rows')) => if i ≠ j ∧ e = e' ∧ (tiOf P e).isSome = true then some (OvlF P g e ∧ 0 < c ∧ 0 < rows.length, .one (.v (.lit (.bool false))), hp) else none
        | _, _ => none
      | _, _ => none
    | _, _ => none
  | _ => none

def arjOpG (P : Program) (hp : Hp) (ev : Operand → AV) (op : Op) : Option (Prop × AV × Hp) := match hasArj hp with
  | true => arjOp P hp ev op
  | false => none

/-- A part of own memory from its beginning, as own array. -/
def narrowR (hp : Hp) : AV → Option (Prop × Hp × AV)
  | .one (.sub i k off len) => match hp[i]? with
    | some (some (.arj e k' c rows)) => if k' = k then some (off = 0 ∧ len ≤ rows.length, hp.set i none ++ [some (.arr e k (rows.take len))], .one (.ar hp.length)) else none
    | _ => none
  | _ => none

section
variable {P : Program} {w w' : World} {ok ok' : Nat → Prop} {μ μ' : List MB} {hp hp' : Hp}

/-! ### rows and cells -/
theorem flatten_take {k : Nat} : ∀ {rows : List (List V)} (m : Nat), UL k rows → (rows.take m).flatten = rows.flatten.take (m * k)
  | [], m, _ => by simp
  | r :: rows, 0, _ => by simp
  | r :: rows, m + 1, h => by
    have h0 := h r (List.mem_cons_self ..)
    rw [List.take_succ_cons, List.flatten_cons, List.flatten_cons, flatten_take m (fun x hx => h x (List.mem_cons_of_mem _ hx)), show (m + 1) * k = r.length + m * k by rw [Nat.add_mul, h0]; omega, List.take_length_add_append]
theorem flatten_drop {k : Nat} : ∀ {rows : List (List V)} (m : Nat), UL k rows → (rows.drop m).flatten = rows.flatten.drop (m * k)
  | [], m, _ => by simp
  | r :: rows, 0, _ => by simp
  | r :: rows, m + 1, h => by
    have h0 := h r (List.mem_cons_self ..)
    rw [List.drop_succ_cons, List.flatten_cons, flatten_drop m (fun x hx => h x (List.mem_cons_of_mem _ hx)), show (m + 1) * k = r.length + m * k by rw [Nat.add_mul, h0]; omega, List.drop_length_add_append]

theorem UL.take {k : Nat} {rows : List (List V)} (h : UL k rows) (m : Nat) : UL k (rows.take m) := fun r hr => h r (List.mem_of_mem_take hr)
theorem UL.drop {k : Nat} {rows : List (List V)} (h : UL k rows) (m : Nat) : UL k (rows.drop m) := fun r hr => h r (List.mem_of_mem_drop hr)
theorem UL.app {k : Nat} {rows new : List (List V)} (h : UL k rows) (h' : UL k new) : UL k (rows ++ new) := fun r hr => by
  rcases List.mem_append.1 hr with h1 | h1
  · exact h r h1
  · exact h' r h1
theorem UL.wr {k off : Nat} {rows new : List (List V)} (h : UL k rows) (h' : UL k new) : UL k (wrRows rows new off) := ((h.take _).app h').app (h.drop _)

/-- Rows of which some are written. -/
theorem seg_rel {k off : Nat} {rows new : List (List V)} {L xs : List Value} (hul : UL k rows) (hun : UL k new) (hoff : off ≤ rows.length)
    (h : All2 (VRel w ok) rows.flatten (L.take (rows.length * k))) (hn : All2 (VRel w ok) new.flatten xs) :
    All2 (VRel w ok) (wrRows rows new off).flatten ((L.take (off * k) ++ xs ++ L.drop (off * k + xs.length)).take ((wrRows rows new off).length * k)) := by
  have hxl : xs.length = new.length * k := by rw [← hn.length, flat_rows hun]
  have hok : off * k ≤ rows.length * k := Nat.mul_le_mul_right _ hoff
  have h1 : All2 (VRel w ok) (rows.take off).flatten (L.take (off * k)) := by
    rw [flatten_take off hul]
    have := h.take (off * k)
    rwa [List.take_take, Nat.min_eq_left hok] at this
  have h2 : All2 (VRel w ok) (rows.drop (off + new.length)).flatten ((L.take (rows.length * k)).drop (off * k + xs.length)) := by
    rw [flatten_drop _ hul, hxl, ← Nat.add_mul]
    exact h.drop _
  have h3 : All2 (VRel w ok) (wrRows rows new off).flatten (L.take (off * k) ++ xs ++ (L.take (rows.length * k)).drop (off * k + xs.length)) := by
    unfold wrRows
    rw [List.flatten_append, List.flatten_append]
    exact (h1.append hn).append h2
  have hl := h3.length
  rw [flat_rows (hul.wr hun)] at hl
  have e : L.take (off * k) ++ xs ++ L.drop (off * k + xs.length) = (L.take (off * k) ++ xs ++ (L.take (rows.length * k)).drop (off * k + xs.length)) ++ (L.drop (rows.length * k)).drop (off * k + xs.length - (L.take (rows.length * k)).length) := by
    conv => lhs; rw [← List.take_append_drop (rows.length * k) L]
    rw [List.drop_append, List.take_append_of_le_length (l₁ := L.take (rows.length * k)) (i := off * k)]
    · rw [List.take_take, Nat.min_eq_left hok]; simp [List.append_assoc]
    · have := h.length
      rw [flat_rows hul] at this
      omega
  rw [e, List.take_left' hl.symm]
  exact h3

theorem wr_len {rows new : List (List V)} {off : Nat} (h : off ≤ rows.length) : (wrRows rows new off).length = off + new.length + (rows.length - (off + new.length)) := by
  unfold wrRows
  simp only [List.length_append, List.length_take, List.length_drop]
  omega

theorem keep_row (hr : HR w ok μ hp) {i : Nat} {blk : Blk} {g n c : Nat} (hi : hp[i]? = some (some blk)) (hm : μ[i]? = some (.arr (.slice (some ⟨g, 0, none⟩) n c))) (cs : Array Value) {b : Nat} (hb : ok b) : (w.setRow g cs).heap[b]? = w.heap[b]? :=
  setRow_other w g b cs fun e => (hr.okn b hb).2 i blk _ hi hm (by subst e; rfl)

/-- A part of own memory of known room is written. -/
theorem arj_write (hr : HR w ok μ hp) {i : Nat} {e : TypeId} {k c g n off : Nat} {rows new : List (List V)} {cur : Array Value} {xs : List Value} (hi : hp[i]? = some (some (.arj e k c rows))) (hm : μ[i]? = some (.arr (.slice (some ⟨g, 0, none⟩) n c)))
    (hk : 0 < k) (hul : UL k rows) (hun : UL k new) (hg : w.heap[g]? = some (.cells cur e (0, 0))) (hc : c ≤ maxLen) (hcs : cur.size = c * k) (h : All2 (VRel w ok) rows.flatten (cur.toList.take (rows.length * k))) (hrc : rows.length ≤ c)
    (hoff : off ≤ rows.length) (hfit : off + new.length ≤ c) (hn : All2 (VRel w ok) new.flatten xs) :
    Step w ok μ hp (w.setRow g (cur.toList.take (off * k) ++ xs ++ cur.toList.drop (off * k + xs.length)).toArray) ok μ (hp.set i (some (.arj e k c (wrRows rows new off)))) := by
  have hxl : xs.length = new.length * k := by rw [← hn.length, flat_rows hun]
  have hle : off * k + xs.length ≤ c * k := by rw [hxl, ← Nat.add_mul]; exact Nat.mul_le_mul_right _ hfit
  refine step_set hr hi hm rfl rfl rfl (by simp) (fun b hb => setRow_other w g b _ fun e => hb (by subst e; rfl)) ?_
  refine ⟨hk, hul.wr hun, .inr ⟨g, n, _, rfl, setRow_heap w g cur _ e _ hg, by rw [wr_len hoff]; omega, hc, ?_, ?_⟩⟩
  · simp only [List.size_toArray, List.length_append, List.length_take, List.length_drop, Array.length_toList, hcs]
    have : off * k ≤ c * k := Nat.mul_le_mul_right _ (by omega)
    omega
  · exact (seg_rel hul hun hoff h hn).mono fun _ _ hv => hv.mono (fun b hb => keep_row hr hi hm _ hb) fun _ hb => hb

/-- .. of own memory of whatever room. -/
theorem arr_write (hr : HR w ok μ hp) {i : Nat} {e : TypeId} {k c g n off : Nat} {rows new : List (List V)} {cur : Array Value} {xs : List Value} (hi : hp[i]? = some (some (.arr e k rows))) (hm : μ[i]? = some (.arr (.slice (some ⟨g, 0, none⟩) n c)))
    (hul : UL k rows) (hun : UL k new) (hg : w.heap[g]? = some (.cells cur e (0, 0))) (hnl : n = rows.length) (hnc : n ≤ c) (hc : c ≤ maxLen) (hcs : cur.size = c * k) (h : All2 (VRel w ok) rows.flatten (cur.toList.take (rows.length * k)))
    (hfit : off + new.length ≤ rows.length) (hn : All2 (VRel w ok) new.flatten xs) :
    Step w ok μ hp (w.setRow g (cur.toList.take (off * k) ++ xs ++ cur.toList.drop (off * k + xs.length)).toArray) ok μ (hp.set i (some (.arr e k (wrRows rows new off)))) := by
  subst hnl
  have hxl : xs.length = new.length * k := by rw [← hn.length, flat_rows hun]
  have hle : off * k + xs.length ≤ rows.length * k := by rw [hxl, ← Nat.add_mul]; exact Nat.mul_le_mul_right _ hfit
  have hle2 : rows.length * k ≤ c * k := Nat.mul_le_mul_right _ hnc
  have hwl : (wrRows rows new off).length = rows.length := by rw [wr_len (by omega)]; omega
  refine step_set hr hi hm rfl rfl rfl (by simp) (fun b hb => setRow_other w g b _ fun e => hb (by subst e; rfl)) ?_
  have hs := (seg_rel hul hun (by omega : off ≤ rows.length) h hn).mono fun _ _ hv => hv.mono (fun b hb => keep_row hr hi hm (cur.toList.take (off * k) ++ xs ++ cur.toList.drop (off * k + xs.length)).toArray hb) fun _ hb => hb
  refine ⟨_, ⟨?_, .inr ⟨g, c, _, by rw [hwl], Nat.zero_le _, setRow_heap w g cur _ e _ hg, by rw [hwl]; exact hnc, hc, ?_, rfl⟩⟩, hs, hul.wr hun⟩
  · rw [← hs.length, flat_rows (hul.wr hun)]
  · simp only [List.size_toArray, List.length_append, List.length_take, List.length_drop, Array.length_toList, hcs]
    have : off * k ≤ c * k := Nat.mul_le_mul_right _ (by omega)
    omega

/-! ### what lies behind a part -/
theorem sub_shape {i k off len : Nat} {x : Value} (hv : AVRel w ok μ (.one (.sub i k off len)) x) : ∃ a c, x = .slice a len c := by
  cases hv with | one hc => cases hc with | sub _ _ _ hμ hs =>
  cases hs with
  | nil h => subst h; exact ⟨_, _, rfl⟩
  | «at» h => exact ⟨_, _, rfl⟩

theorem sub_rel {v : AV} {x : Value} {i k off len : Nat} {e : TypeId} {c : Nat} {rows : List (List V)} (hr : HR w ok μ hp) (hv : AVRel w ok μ (.one (.sub i k off len)) x) (hi : hp[i]? = some (some (.arj e k c rows))) :
    ∃ m, μ[i]? = some (.arr m) ∧ 0 < k ∧ UL k rows ∧ ((m = .slice none 0 0 ∧ x = .slice none 0 0 ∧ c = 0 ∧ rows = [] ∧ len = 0) ∨
      ∃ g n cur o, m = .slice (some ⟨g, 0, none⟩) n c ∧ x = .slice (some ⟨g, o, none⟩) len (c - off) ∧ ((off < c ∨ off = 0) → o = off * k) ∧ w.heap[g]? = some (.cells cur e (0, 0)) ∧ rows.length ≤ c ∧ c ≤ maxLen ∧ cur.size = c * k ∧ All2 (VRel w ok) rows.flatten (cur.toList.take (rows.length * k))) := by
  obtain ⟨m, hm, hb⟩ := hr.rel _ _ hi
  cases hv with | one hc => cases hc with | sub _ _ _ hμ hs =>
  rw [hμ] at hm; cases hm
  obtain ⟨hk, hul, hb⟩ := hb
  refine ⟨_, hμ, hk, hul, ?_⟩
  rcases hb with ⟨rfl, rfl, rfl⟩ | ⟨g, n, cur, rfl, h2, h3, h4, h5, h6⟩
  · cases hs with | nil h0 => exact .inl ⟨rfl, rfl, rfl, rfl, h0⟩
  · cases hs with | «at» h0 => exact .inr ⟨g, n, cur, _, rfl, rfl, fun h => by simpa using h0 h, h2, h3, h4, h5, h6⟩

/-- What a copy or an append reads. -/
theorem srcJ_rel {v : AV} {x : Value} {k n m : Nat} {av : List (List V)} (hr : HR w ok μ hp) (hv : AVRel w ok μ v x) (h : srcJ k hp v = some (n, av)) (hul : UL k av) (hm : m ≤ n) (hma : m ≤ av.length) :
    ∃ a c xs, x = .slice a n c ∧ All2 (VRel w ok) (av.take m).flatten xs ∧ (a = none → m = 0) ∧ ∀ b, a = some b → ∀ (j : Nat) u, xs[j]? = some u → w.cell? (b.add j) = some u := by
  unfold srcJ at h
  split at h
  · rename_i i k' off len
    split at h
    · rename_i e k'' c rows hi
      split at h
      · rename_i hk
        obtain ⟨rfl, rfl⟩ := hk
        cases h
        obtain ⟨mm, hμ, hk0, hulr, hc⟩ := sub_rel (v := .any) hr hv hi
        rcases hc with ⟨rfl, rfl, rfl, rfl, rfl⟩ | ⟨g, n', cur, o, rfl, rfl, ho, hg, hrc, hcm, hcs, hall⟩
        · have : m = 0 := by omega
          subst this
          exact ⟨none, 0, [], rfl, by simpa using All2.nil, fun _ => rfl, fun b hb => by cases hb⟩
        · refine ⟨_, _, ((cur.toList.take (rows.length * k'')).drop (off * k'')).take (m * k''), rfl, ?_, (fun h => by cases h), ?_⟩
          · rw [flatten_take m (hulr.drop off), flatten_drop off hulr]
            exact (hall.drop _).take _
          · intro b hb j u hu
            cases hb
            have hjl := lt_of_getElem? hu
            simp only [List.length_take, List.length_drop] at hjl
            rw [List.length_drop] at hma
            have hm0 : 0 < m := by
              rcases Nat.eq_zero_or_pos m with h0 | h0
              · rw [h0] at hjl; simp at hjl
              · exact h0
            rw [ho (by omega), Addr.add_lit]
            rw [List.getElem?_take, if_pos (by omega), List.getElem?_drop, List.getElem?_take] at hu
            split at hu
            · rw [cell_of_row w g _ cur e (0, 0) hg]
              simpa using hu
            · cases hu
      · cases h
    · cases h
  · obtain ⟨r, hr1, e1⟩ := Option.map_eq_some_iff.1 h
    cases e1
    rcases rowsOf_rel hr hr1 hv with ⟨rfl, rfl⟩ | ⟨b, off, cap, rfl, _, _, hcell⟩
    · have : m = 0 := by simpa using hma
      subst this
      exact ⟨none, 0, [], rfl, by simpa using All2.nil, fun _ => rfl, fun b hb => by cases hb⟩
    · obtain ⟨ys, hall, hc⟩ := rows_cells hul hcell
      refine ⟨_, _, ys.take (m * k), rfl, ?_, (fun h => by cases h), ?_⟩
      · rw [flatten_take m hul]; exact hall.take _
      · intro b' hb j u hu
        cases hb
        rw [List.getElem?_take] at hu
        split at hu
        · exact hc j u hu
        · cases hu

theorem first_run {x : Value} {a : Option Addr} {n c m k : Nat} {xs : List Value} (hx : x = .slice a n c) (hl : xs.length = m * k) (h0 : a = none → m = 0) (h : ∀ b, a = some b → ∀ (j : Nat) u, xs[j]? = some u → w.cell? (b.add j) = some u) :
    (Builtin.firstCells k m x).run P w = .ok xs.toArray w := by
  subst hx
  cases a with
  | none =>
    have := h0 rfl
    subst this
    have : xs = [] := List.eq_nil_of_length_eq_zero (by simpa using hl)
    subst this
    exact run_firstCells_none (P := P) w k 0 n c
  | some b => exact run_firstCells_some (P := P) w k m b n c xs hl (h b rfl)

theorem run_copy_to (dT sT ty elem : TypeId) (k : Nat) (hu : P.underlying dT = some (.slice elem)) (hs : (sizeOf elem).run P w = .ok k w) {base : Option Addr} {dLen dCap n : Nat} {x : Value} {a : Option Addr} {c : Nat} (hx : x = .slice a n c) {xs : List Value} {w' : World}
    (hf : (Builtin.firstCells k (min n dLen) x).run P w = .ok xs.toArray w) (hst : ∀ b, base = some b → (storeCells b xs).run P w = .ok () w') (hno : base = none → w' = w) :
    (Builtin.copy_ #[dT, sT] ty #[.slice base dLen dCap, x]).run P w = .ok (.int .i64 (min n dLen : Nat)) w' := by
  subst hx
  cases base with
  | none =>
    obtain rfl := hno rfl
    simp [Builtin.copy_, run_underlying hu, Builtin.lenOf, hs, hf, goInt]
  | some b => simp [Builtin.copy_, run_underlying hu, Builtin.lenOf, hs, hf, hst b rfl, goInt]

theorem run_slice_J {t e : TypeId} {j : TI} {a : Option Addr} {len cap : Nat} {lo hi : Option AV} {xl xh xm : Option Value} {l h : Int} (hu : P.underlying t = some (.slice e)) (hj : tiOf P e = some j)
    (vl : ∀ v, lo = some v → ∃ x, xl = some x ∧ AVRel w ok μ v x) (nl : lo = none → xl = none)
    (vh : ∀ v, hi = some v → ∃ x, xh = some x ∧ AVRel w ok μ v x) (nh : hi = none → xh = none)
    (hl : boundAV 0 lo = some l) (hh : boundAV len hi = some h) (h0 : 0 ≤ l) (h1 : l ≤ h) :
    (xm = none → h ≤ cap → (Instr.sliceAt t (.slice a len cap) xl xh xm).run P w = .ok (sliced a l.toNat h.toNat cap j.size) w) ∧
    (∀ km m, xm = some (.int km m) → (∃ v, hi = some v) → h ≤ m → m ≤ cap → (Instr.sliceAt t (.slice a len cap) xl xh xm).run P w = .ok (sliced a l.toNat h.toNat m.toNat j.size) w) := by
  have hs := run_sizeOf (tiOf_spec hj) w
  have he : P.elem t = e := by simp [Program.elem, hu]
  have hu' : P.underlying t = some (.slice (P.elem t)) := by rw [he]; exact hu
  have main : ∀ l h m : Nat, (Instr.sliceBounds true len cap xl xh xm).run P w = .ok (l, h, m) w → (Instr.slice t (.slice a len cap) xl xh xm).run P w = .ok (sliced a l h m j.size) w := by
    intro l h m hb
    rw [run_slice_any w t a len cap hu', hb, he]
    simp [hs]
  have bl : ∀ (K : Nat → Sem (Nat × Nat × Nat)) code, ∀ y : Nat, l ≤ y → 0 ≤ l → (match xl with | some v => (do let q ← Instr.sliceBound v y code; K q) | none => (do let q ← Pure.pure 0; K q) : Sem (Nat × Nat × Nat)).run P w = (K l.toNat).run P w := by
    intro K code y h1 h0
    rcases bound_cases hl vl nl with ⟨rfl, rfl⟩ | ⟨kl, rfl⟩
    · rfl
    · simp only [Sem.run_bind, run_sliceBound' (P := P) (w := w) kl l y code h0 h1, Result.andThen_ok]
  have bh := bound_cases hh vh nh
  rw [run_sliceAt_slice w t _ _ _ _ hu']
  refine ⟨fun hxm h2 => ?_, fun km m hxm hv h2 h3 => ?_⟩
  · subst hxm
    refine main _ _ cap ?_
    rcases bh with ⟨rfl, rfl⟩ | ⟨kh, rfl⟩
    · simp only [Instr.sliceBounds, Sem.run_bind, Sem.run_pure, Result.andThen_ok, Option.isSome_none, Bool.false_eq_true, if_false, Int.toNat_natCast]
      exact bl _ .sliceB len h1 h0
    · simp only [Instr.sliceBounds, Sem.run_bind, Sem.run_pure, Result.andThen_ok, Option.isSome_none, Bool.false_eq_true, if_false, if_true, run_sliceBound' (P := P) (w := w) kh h cap .sliceAcap (by omega) (by omega)]
      exact bl _ .sliceB h.toNat (by omega) h0
  · subst hxm
    refine main _ _ _ ?_
    rcases bh with ⟨rfl, _⟩ | ⟨kh, rfl⟩
    · obtain ⟨v, hv⟩ := hv; obtain ⟨_, hx, _⟩ := vh v hv; cases hx
    · simp only [Instr.sliceBounds, Sem.run_bind, Result.andThen_ok, Option.isSome_some, if_true, run_sliceBound' (P := P) (w := w) km m cap .slice3Acap (by omega) (by omega), run_sliceBound' (P := P) (w := w) kh h m.toNat .slice3B (by omega) (by omega)]
      exact bl _ .slice3C h.toNat (by omega) h0

end
end Go.Proofs.AE
