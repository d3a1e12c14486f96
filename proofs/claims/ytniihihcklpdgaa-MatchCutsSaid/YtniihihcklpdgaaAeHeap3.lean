/- The abstract evaluator, part 11: the operations that make or write memory do what the evaluator says. -/
import Derived.Test.YtniihihcklpdgaaAeHeap2
set_option linter.unusedVariables false
set_option linter.unusedSimpArgs false
namespace Go.Proofs.AE
open Go Go.RowKit

section
variable {P : Program} {n : Nat} {w w' : World} {ok ok' : Nat → Prop} {μ μ' : List MB} {hp hp' : Hp}

theorem rows_cells {rows : List (List V)} {k : Nat} (hk : UL k rows) {b off : Nat} (h : ∀ (i : Nat) row (j : Nat) v, rows[i]? = some row → row[j]? = some v → ∃ y, w.cell? ⟨b, off + (i * row.length + j), none⟩ = some y ∧ VRel w ok v y) :
    ∃ xs, All2 (VRel w ok) rows.flatten xs ∧ ∀ (j : Nat) u, xs[j]? = some u → w.cell? ((⟨b, off, none⟩ : Addr).add j) = some u := by
  have hlen := flat_rows hk
  have key : ∀ j v, rows.flatten[j]? = some v → ∃ y, w.cell? ⟨b, off + j, none⟩ = some y ∧ VRel w ok v y := by
    intro j v hj
    have hjl := lt_of_getElem? hj
    rw [hlen] at hjl
    have hk0 : 0 < k := by rcases Nat.eq_zero_or_pos k with rfl | h; · simp at hjl
                           · exact h
    have hq : j / k < rows.length := (Nat.div_lt_iff_lt_mul hk0).2 hjl
    have hrow : rows[j / k]? = some rows[j / k] := List.getElem?_eq_getElem hq
    have hmod := Nat.mod_lt j hk0
    have hf := flatten_get hk hrow (j % k) hmod
    have hdm : j / k * k + j % k = j := by rw [Nat.mul_comm]; exact Nat.div_add_mod j k
    rw [hdm, hj] at hf
    obtain ⟨y, hy, hr⟩ := h (j / k) _ (j % k) v hrow hf.symm
    rw [hk _ (List.mem_of_getElem? hrow), hdm] at hy
    exact ⟨y, hy, hr⟩
  refine ⟨(List.range rows.flatten.length).map fun j => (w.cell? ⟨b, off + j, none⟩).getD undef, All2.of_get (by simp) ?_, ?_⟩
  · intro j v y hj hy
    have hjl := lt_of_getElem? hj
    obtain ⟨z, hz, hr⟩ := key j v hj
    rw [List.getElem?_map, List.getElem?_range hjl] at hy
    simp only [Option.map_some, hz, Option.getD_some, Option.some.injEq] at hy
    subst hy; exact hr
  · intro j u hu
    have hjl : j < rows.flatten.length := by have := lt_of_getElem? hu; simpa using this
    obtain ⟨z, hz, hr⟩ := key j _ (List.getElem?_eq_getElem hjl)
    rw [List.getElem?_map, List.getElem?_range hjl] at hu
    simp only [Option.map_some, hz, Option.getD_some, Option.some.injEq] at hu
    subst hu
    rw [Addr.add_lit]; exact hz

theorem strRows_rel (s : ByteArray) : All2 (VRel w ok) (strRows s).flatten (Lib.strCells s) := by
  unfold strRows Lib.strCells
  induction s.data.toList with
  | nil => exact .nil
  | cons b l ih => exact .cons (.lit _ rfl) ih

theorem strRows_len (s : ByteArray) : (strRows s).length = s.size := by simp [strRows]

theorem madeCells_rel {z : Array Value} {zs : List V} (h : All2 (VRel w ok) zs z.toList) (m : Nat) : All2 (VRel w ok) (List.replicate m zs).flatten (madeCells z (m * z.size)).toList := by
  have hl : zs.length = z.size := by simpa using h.length
  have hul : UL z.size (List.replicate m zs) := fun r hr => by rw [(List.mem_replicate.1 hr).2]; exact hl
  have hfl := flat_rows hul
  refine All2.of_get (by rw [hfl]; simp [madeCells]) ?_
  intro j v y hj hy
  have hjl := lt_of_getElem? hj
  rw [hfl, List.length_replicate] at hjl
  have hk0 : 0 < z.size := by rcases Nat.eq_zero_or_pos z.size with h0 | h0; · rw [h0] at hjl; simp at hjl
                              · exact h0
  have hq : j / z.size < m := (Nat.div_lt_iff_lt_mul hk0).2 hjl
  have hrow : (List.replicate m zs)[j / z.size]? = some zs := by rw [List.getElem?_replicate, if_pos hq]
  have hmod := Nat.mod_lt j hk0
  have hf := flatten_get hul hrow (j % z.size) hmod
  have hdm : j / z.size * z.size + j % z.size = j := by rw [Nat.mul_comm]; exact Nat.div_add_mod j _
  rw [hdm, hj] at hf
  obtain ⟨y', hy', hr⟩ := h.get hf.symm
  have : y = y' := by
    simp only [madeCells, Array.toList_map, Array.toList_range, List.getElem?_map, List.getElem?_range hjl, Option.map_some, Option.some.injEq] at hy
    rw [← hy]
    have h2 : z[j % z.size]? = some y' := by simpa using hy'
    simp [hmod]
    have := Array.getElem?_eq_getElem (xs := z) hmod
    rw [this] at h2; exact Option.some.inj h2
  subst this
  exact hr

theorem set_flatten {k : Nat} : ∀ {rows : List (List V)} {r : Nat} {row : List V}, UL k rows → rows[r]? = some row → r < rows.length → ∀ (new : List V) (off sz : Nat), off + sz ≤ k → ∀ vs, new = row.take off ++ vs ++ row.drop (off + sz) →
    (rows.set r new).flatten = rows.flatten.take (r * k + off) ++ vs ++ rows.flatten.drop (r * k + off + sz)
  | [], r, row, _, h, _, _, _, _, _, _, _ => by simp at h
  | r0 :: rows, 0, row, hul, h, _, new, off, sz, hle, vs, hn => by
    have h0 := hul r0 (List.mem_cons_self ..)
    simp at h; subst h; subst hn
    simp only [List.set_cons_zero, List.flatten_cons, Nat.zero_mul, Nat.zero_add]
    rw [List.take_append_of_le_length (by omega), List.drop_append_of_le_length (by omega)]
    simp [List.append_assoc]
  | r0 :: rows, r + 1, row, hul, h, hr, new, off, sz, hle, vs, hn => by
    have h0 := hul r0 (List.mem_cons_self ..)
    simp only [List.set_cons_succ, List.flatten_cons]
    rw [set_flatten (fun x hx => hul x (List.mem_cons_of_mem _ hx)) (by simpa using h) (by simpa using hr) new off sz hle vs hn]
    have e1 : (r + 1) * k = r0.length + r * k := by rw [Nat.add_mul, h0]; omega
    rw [e1, show r0.length + r * k + off = r0.length + (r * k + off) by omega, show r0.length + (r * k + off) + sz = r0.length + (r * k + off + sz) by omega]
    rw [List.take_length_add_append, List.drop_length_add_append]
    simp [List.append_assoc]

theorem grown_frame {row : Option Nat} (hg : w.grownBy w' row) {b : Nat} (hb : b < w.heap.size) (hn : row ≠ some b) : w'.heap[b]? = w.heap[b]? :=
  hg.block b hb fun e => hn e.symm

theorem grown_owns {e : TypeId} {size : Nat} {z : Value} (hzs : z.cells.size = size) {xs news : List Value} {n m cap : Nat} (hx : xs.length = n * size) (hn : news.length = m * size) (hcap : n + m ≤ cap) (hmax : cap ≤ maxLen) :
    (w.drew.alloc (.cells (xs.toArray ++ news.toArray ++ Builtin.zeroCells z.cells (cap - (n + m))) e)).ownsRow 0 e size (.slice (some ⟨w.heap.size, 0, none⟩) (n + m) cap) (n + m) (xs ++ news) := by
  have hl : (xs ++ news).length = (n + m) * size := by rw [List.length_append, hx, hn, Nat.add_mul]
  refine ⟨hl, .inr ⟨w.heap.size, cap, _, rfl, Nat.zero_le _, heap_alloc_new w.drew _, hcap, hmax, ?_, ?_⟩⟩
  · simp only [Array.size_append, List.size_toArray, size_zeroCells, hzs, hx, hn, ← Nat.add_mul]
    congr 1; omega
  · simp only [Array.toList_append]
    exact List.take_left' hl

theorem grown_by {row : Option Nat} (o : Obj) : w.grownBy (w.drew.alloc o) row := ⟨rfl, rfl, rfl, by simp, fun k hk _ => Below.heap_alloc w.drew _ k hk⟩

theorem room_owns {e : TypeId} {size g n m cap : Nat} {cur : Array Value} {xs news : List Value} (hg : w.heap[g]? = some (.cells cur e (0, 0))) (hx : xs.length = n * size) (hn : news.length = m * size) (hcap : n + m ≤ cap) (hmax : cap ≤ maxLen) (hcs : cur.size = cap * size)
    (htake : cur.toList.take (n * size) = xs) :
    (w.setRow g (cur.toList.take (n * size) ++ news ++ cur.toList.drop (n * size + news.length)).toArray).ownsRow 0 e size (.slice (some ⟨g, 0, none⟩) (n + m) cap) (n + m) (xs ++ news) := by
  have hl : (xs ++ news).length = (n + m) * size := by rw [List.length_append, hx, hn, Nat.add_mul]
  have hle : (n + m) * size ≤ cur.size := by rw [hcs]; exact Nat.mul_le_mul_right _ hcap
  refine ⟨hl, .inr ⟨g, cap, _, rfl, Nat.zero_le _, setRow_heap w g cur _ e _ hg, hcap, hmax, ?_, ?_⟩⟩
  · simp only [List.size_toArray, List.length_append, List.length_take, List.length_drop, Array.length_toList, hn, ← hcs]
    rw [Nat.add_mul] at hle; omega
  · rw [htake]; exact List.take_left' hl

theorem room_by {g : Nat} {cs : Array Value} {n cap : Nat} : w.grownBy (w.setRow g cs) (Value.ownBlock (.slice (some ⟨g, 0, none⟩) n cap)) :=
  ⟨rfl, rfl, rfl, by simp, fun k _ hk => setRow_other w g k _ (fun e => hk (by simp [Value.ownBlock, e]))⟩

/-- append onto what is owned: the block is the elder one, or new. -/
theorem append_own2 (t ty e : TypeId) (i : TypeInfo) (z : Value) (size bytes : Nat) (ht : P.underlying t = some (.slice e)) (hi : P.info? e = some i) (hz : i.zero = some z)
    (hsize : i.size = size) (hby : i.bytes = bytes) (hzs : z.cells.size = size) (v : Value) (n : Nat) (xs : List Value) (hown : w.ownsRow 0 e size v n xs)
    (a : Addr) (m c : Nat) (news : List Value) (hl : news.length = m * size) (hnews : ∀ (j : Nat) u, news[j]? = some u → w.cell? (a.add j) = some u) (h1 : ∀ u ∈ news, u.oneCell' = true)
    (h63 : n + m ≤ 9223372036854775807) (hbytes : (n + m) * bytes ≤ 140737488355328) :
    ∃ v' w', (Builtin.append_ #[t, t] ty #[v, .slice (some a) m c]).run P w = .ok v' w' ∧ w'.ownsRow 0 e size v' (n + m) (xs ++ news) ∧ w.grownBy w' v.ownBlock ∧ (∀ b, v'.ownBlock = some b → v.ownBlock = some b ∨ w.heap.size ≤ b) := by
  subst hsize; subst hby
  have hmx : n + m ≤ maxLen := by unfold maxLen; omega
  rcases hown.2 with ⟨rfl, rfl⟩ | ⟨g, cap, cur, rfl, _, hg, hnc, hcm, hcs, htake⟩
  · have hx : xs = [] := List.eq_nil_of_length_eq_zero (by simpa using hown.1)
    subst hx
    by_cases hm : m = 0
    · subst hm
      have hn : news = [] := List.eq_nil_of_length_eq_zero (by simpa using hl)
      subst hn
      refine ⟨.slice none 0 0, w, ?_, World.ownsRow_nil w 0 e i.size, ⟨rfl, rfl, rfl, Nat.le_refl _, fun _ _ _ => rfl⟩, fun b hb => .inl hb⟩
      simp [Builtin.append_, run_underlying ht, sizeOf, typeInfo, hi, Builtin.lenOf, Builtin.firstCells, loadCells, loadCellsFrom]
    · have hr := run_append_nil (P := P) w t ty e i z ht hi hz a m c news hl hnews (by omega) (by omega) (by simp only [Nat.zero_add] at hbytes; omega)
      have hge := grownCap_ge w m 0 e
      have hgm := grownCap_le_maxLen w m 0 e (by simpa using hmx)
      have hgr := grown_owns (w := w) (e := e) hzs (xs := []) (news := news) (n := 0) (m := m) (by simp) hl (by omega) hgm
      simp only [Nat.zero_add, List.nil_append, Array.empty_append] at hgr ⊢
      exact ⟨_, _, hr, hgr, grown_by _, fun b hb => .inr (by cases hb; exact Nat.le_refl _)⟩
  · by_cases hroom : n + m ≤ cap
    · have hfit : n * i.size + news.length ≤ cur.size := by rw [hl, hcs, ← Nat.add_mul]; exact Nat.mul_le_mul_right _ hroom
      have hr := run_append_room (P := P) w t ty e i ht hi g n cap cur hg a m c news hl hnews h1 hroom hfit
      exact ⟨_, _, hr, room_owns hg hown.1 hl hroom hcm hcs htake, room_by, fun b hb => .inl hb⟩
    · have holds : ∀ (j : Nat) u, xs[j]? = some u → w.cell? ((⟨g, 0, none⟩ : Addr).add j) = some u := hown.cells (g := g) rfl
      have hr := run_append_grow (P := P) w t ty e i z ht hi hz ⟨g, 0, none⟩ n cap xs hown.1 holds a m c news hl hnews (by omega) (by omega) (growslice_fits (by omega) hbytes)
      exact ⟨_, _, hr, grown_owns hzs hown.1 hl (grownCap_ge w _ _ e) (grownCap_le_maxLen w _ _ e hmx), grown_by _, fun b hb => .inr (by cases hb; exact Nat.le_refl _)⟩

theorem append_own_str (t u ty e : TypeId) (i : TypeInfo) (ht : P.underlying t = some (.slice e)) (hu : P.underlying u = some .string) (hi : P.info? e = some i) (hz : i.zero = some (.int .u8 0))
    (hsize : i.size = 1) (hby : i.bytes = 1) (v : Value) (n : Nat) (xs : List Value) (hown : w.ownsRow 0 e 1 v n xs) (s : ByteArray)
    (h63 : n + s.size ≤ 9223372036854775807) (hbytes : n + s.size ≤ 140737488355328) :
    ∃ v' w', (Builtin.append_ #[t, u] ty #[v, .string s]).run P w = .ok v' w' ∧ w'.ownsRow 0 e 1 v' (n + s.size) (xs ++ Lib.strCells s) ∧ w.grownBy w' v.ownBlock ∧ (∀ b, v'.ownBlock = some b → v.ownBlock = some b ∨ w.heap.size ≤ b) := by
  have hmx : n + s.size ≤ maxLen := by unfold maxLen; omega
  have hsl : (Lib.strCells s).length = s.size * 1 := by rw [Lib.strCells_length, Nat.mul_one]
  rcases hown.2 with ⟨rfl, rfl⟩ | ⟨g, cap, cur, rfl, _, hg, hnc, hcm, hcs, htake⟩
  · have hx : xs = [] := List.eq_nil_of_length_eq_zero (by simpa using hown.1)
    subst hx
    by_cases hm : s.size = 0
    · obtain ⟨v', w', r1, r2, r3, r4⟩ := Lib.run_append_own_string (P := P) w 0 t u ty e i ht hu hi hz hsize hby _ _ _ hown s hmx hbytes (Nat.zero_le _)
      have hv : v' = .slice none 0 0 := r4.2 ⟨rfl, hm⟩
      subst hv
      exact ⟨_, w', r1, r2, r3, fun b hb => by cases hb⟩
    · have hr := run_append_nil_string (P := P) w t u ty e i _ ht hu hi hz s (by omega) (by omega) (by rw [hby]; omega)
      have hge := grownCap_ge w s.size 0 e
      have hgm := grownCap_le_maxLen w s.size 0 e (by simpa using hmx)
      have hgr := grown_owns (w := w) (e := e) (size := 1) (z := .int .u8 0) rfl (xs := []) (news := Lib.strCells s) (n := 0) (m := s.size) (by simp) hsl (by omega) hgm
      simp only [Nat.zero_add, List.nil_append, Array.empty_append] at hgr ⊢
      have harr : (Lib.strCells s).toArray = s.data.map (fun b => Value.int .u8 b.toNat) := by apply Array.ext'; simp [Lib.strCells]
      rw [harr] at hgr
      exact ⟨_, _, hr, hgr, grown_by _, fun b hb => .inr (by cases hb; exact Nat.le_refl _)⟩
  · by_cases hroom : n + s.size ≤ cap
    · have hfit : n + s.size ≤ cur.size := by rw [hcs]; omega
      have hr := Lib.run_append_room_string (P := P) w t u ty e i ht hu hi hsize g n cap cur hg s hroom hfit
      have ho := room_owns (news := Lib.strCells s) (m := s.size) hg hown.1 hsl hroom hcm hcs htake
      simp only [Nat.mul_one, Lib.strCells_length] at ho
      exact ⟨_, _, hr, ho, room_by, fun b hb => .inl hb⟩
    · have holds : ∀ (j : Nat) u, xs[j]? = some u → w.cell? ((⟨g, 0, none⟩ : Addr).add j) = some u := hown.cells (g := g) rfl
      have hr := Lib.run_append_grow_string (P := P) w t u ty e i _ ht hu hi hz ⟨g, 0, none⟩ n cap xs (by rw [hsize]; exact hown.1) holds s (by omega) (by omega) (growslice_fits (by omega) (by rw [hby]; omega))
      exact ⟨_, _, hr, grown_owns rfl hown.1 hsl (grownCap_ge w _ _ e) (grownCap_le_maxLen w _ _ e hmx), grown_by _, fun b hb => .inr (by cases hb; exact Nat.le_refl _)⟩

theorem heapOp_sound {o : Oper} {ρ : Operand → Value} {ev : Operand → AV} {p : Prop} {r : AV} (hr : HR w ok μ hp) (hev : ∀ x, AVRel w ok μ (ev x) (ρ x))
    (h : heapOp P hp ev o.op = some (p, r, hp')) (hp'' : p) :
    ∃ nx w' μ', (execOp ρ o).run P w = .ok nx w' ∧ Step w ok μ hp w' ok μ' hp' ∧ ((∃ x, nx = .value x ∧ AVRel w' ok μ' r x) ∨ (nx = .skip ∧ r = .any)) := by
  unfold heapOp at h
  split at h
  · rename_i t he
    split at h
    · rename_i i hi
      cases h
      obtain ⟨it, hit, hsz, _, z, hz, hzs, hzl⟩ := (tiOf_spec hi).info
      obtain ⟨h1, h2⟩ := box_sound (t := t) (xs := z.cells) hr (zeroC_rel hzs)
      refine ⟨_, _, _, ?_, h1, .inl ⟨_, rfl, h2⟩⟩
      simp [execOp, he, Instr.alloc, zeroValue, typeInfo, hit, hz, newVar, newRow]
    · cases h
  · rename_i t x he
    obtain ⟨cs, hcs, e⟩ := Option.map_eq_some_iff.1 h
    cases e
    obtain ⟨h1, h2⟩ := box_sound (t := t) (xs := (ρ x).cells) hr (boxCells_rel hcs (hev x))
    refine ⟨_, _, _, ?_, h1, .inl ⟨_, rfl, h2⟩⟩
    simp [execOp, he, Instr.box, newVar, newRow]
  · rename_i t a x he
    split at h
    · rename_i i xs hi hxs
      have hti := tiOf_spec hi
      have hx := boxCells_rel hxs (hev x)
      split at h
      · rename_i hl
        have ha := hev a
        split at h
        · rename_i b off hae
          rw [hae] at ha
          split at h
          · rename_i u cs hb
            split at h
            · rename_i hle
              cases h
              obtain ⟨m, hm, hbr⟩ := hr.rel _ _ hb
              cases hav : ρ a with
              | pointer ad =>
                rw [hav] at ha
                cases ha with | one hc => cases hc with | @ptr _ g _ hμ =>
                rw [hμ] at hm; cases hm
                obtain ⟨cur, hg, hall⟩ := hbr
                have hfit : off + i.size ≤ cur.size := by have := hall.length; simp at this; omega
                have hrun := store_run hti hx hl hg hfit
                have hframe : ∀ q, q ≠ g → (w.setRow g (cur.toList.take off ++ (ρ x).cells.toList ++ cur.toList.drop (off + i.size)).toArray).heap[q]? = w.heap[q]? := fun q hq => setRow_other w g q _ hq
                refine ⟨.skip, _, _, ?_, step_set (w' := w.setRow g (cur.toList.take off ++ (ρ x).cells.toList ++ cur.toList.drop (off + i.size)).toArray) hr hb hμ rfl rfl rfl (by simp) (fun q hq => hframe q (fun e => hq (by rw [e]; rfl))) ⟨_, setRow_heap w g cur _ _ _ hg, ?_⟩, .inr ⟨rfl, rfl⟩⟩
                · simp only [execOp, he, hav, Sem.run_bind, hrun, Result.andThen_ok]; rfl
                · have hk : ∀ q, ok q → (w.setRow g (cur.toList.take off ++ (ρ x).cells.toList ++ cur.toList.drop (off + i.size)).toArray).heap[q]? = w.heap[q]? := fun q hq => hframe q (fun e => (hr.okn q hq).2 b _ _ hb hμ (by rw [e]; rfl))
                  exact (((hall.take off).append hx).append (hall.drop _)).mono fun _ _ h => h.mono hk fun _ h => h
              | _ => rw [hav] at ha; cases ha with | one hc => cases hc
            · cases h
          · cases h
        · rename_i b r' k off hae
          rw [hae] at ha
          split at h
          · rename_i e k' rows hb
            split at h
            · rename_i row vs hrow hvs
              split at h
              · rename_i hk
                obtain ⟨rfl, hle⟩ := hk
                cases h
                obtain ⟨m, hm, hbr⟩ := hr.rel _ _ hb
                cases hav : ρ a with
                | pointer ad =>
                  rw [hav] at ha
                  cases ha with | one hc => cases hc with | @eptr _ g len cap _ _ _ hμ =>
                  rw [hμ] at hm; cases hm
                  obtain ⟨ys, hown, hall, hul⟩ := hbr
                  have hxv := vsOf_rel hvs hx
                  rcases hown.2 with ⟨hnil, _⟩ | ⟨g', cap', cur, heq, _, hg, hnc, hcm, hcs, htake⟩
                  · cases hnil
                  · cases heq
                    have hrl := lt_of_getElem? hrow
                    have hrlen := hul row (List.mem_of_getElem? hrow)
                    have hbound : r' * k' + k' ≤ rows.length * k' := by
                      have : (r' + 1) * k' ≤ rows.length * k' := Nat.mul_le_mul_right _ hrl
                      rw [Nat.add_mul] at this; omega
                    have hcap : rows.length * k' ≤ cur.size := by rw [hcs]; exact Nat.mul_le_mul_right _ hnc
                    have hfit : (r' * k' + off) + i.size ≤ cur.size := by omega
                    have hrun := store_run hti hx hl hg hfit
                    have hframe : ∀ q, q ≠ g → (w.setRow g (cur.toList.take (r' * k' + off) ++ (ρ x).cells.toList ++ cur.toList.drop (r' * k' + off + i.size)).toArray).heap[q]? = w.heap[q]? := fun q hq => setRow_other w g q _ hq
                    have hxl : (ρ x).cells.toList.length = i.size := by rw [← hx.length, hl]
                    have hvl : vs.length = i.size := by rw [hxv.length, hxl]
                    refine ⟨.skip, _, _, ?_, step_set (blk' := .arr e k' (rows.set r' (row.take off ++ vs ++ row.drop (off + i.size)))) (w' := w.setRow g (cur.toList.take (r' * k' + off) ++ (ρ x).cells.toList ++ cur.toList.drop (r' * k' + off + i.size)).toArray) hr hb hμ rfl rfl rfl (by simp) (fun q hq => hframe q (fun e => hq (by rw [e]; rfl))) ⟨ys.take (r' * k' + off) ++ (ρ x).cells.toList ++ ys.drop (r' * k' + off + i.size), ?_, ?_, ?_⟩, .inr ⟨rfl, rfl⟩⟩
                    · simp only [execOp, he, hav, Sem.run_bind, hrun, Result.andThen_ok]; rfl
                    · have hyl : ys.length = rows.length * k' := hown.1
                      refine ⟨?_, .inr ⟨g, cap, _, by simp, Nat.zero_le _, setRow_heap w g cur _ _ _ hg, by simpa using hnc, hcm, ?_, ?_⟩⟩
                      · simp only [List.length_append, List.length_take, List.length_drop, List.length_set, hxl, hyl]; omega
                      · simp only [List.size_toArray, List.length_append, List.length_take, List.length_drop, Array.length_toList, hxl]; omega
                      · simp only [List.length_set]
                        apply List.ext_getElem?
                        intro q
                        have htq : ∀ q, q < rows.length * k' → cur.toList[q]? = ys[q]? := by
                          intro q hq; rw [← htake, List.getElem?_take, if_pos hq]
                        simp only [List.getElem?_take, List.append_assoc, List.getElem?_append, List.length_take, List.getElem?_drop, Array.length_toList, hxl, hyl]
                        rw [Nat.min_eq_left (by omega), Nat.min_eq_left (by omega)]
                        by_cases q1 : q < rows.length * k'
                        · rw [if_pos q1]
                          by_cases q2 : q < r' * k' + off
                          · simp [q2, htq q q1]
                          · rw [if_neg q2, if_neg q2]
                            by_cases q3 : q - (r' * k' + off) < i.size
                            · rw [if_pos q3, if_pos q3]
                            · rw [if_neg q3, if_neg q3, htq _ (by omega)]
                        · rw [if_neg q1, if_neg (by omega), if_neg (by omega), List.getElem?_eq_none (by rw [hyl]; omega)]
                    · have hk : ∀ q, ok q → (w.setRow g (cur.toList.take (r' * k' + off) ++ (ρ x).cells.toList ++ cur.toList.drop (r' * k' + off + i.size)).toArray).heap[q]? = w.heap[q]? := fun q hq => hframe q (fun e => (hr.okn q hq).2 b _ _ hb hμ (by rw [e]; rfl))
                      have hfl : (rows.set r' (row.take off ++ vs ++ row.drop (off + i.size))).flatten = rows.flatten.take (r' * k' + off) ++ vs ++ rows.flatten.drop (r' * k' + off + i.size) := by
                        exact set_flatten hul hrow hrl (row.take off ++ vs ++ row.drop (off + i.size)) off i.size hle vs rfl
                      rw [hfl]
                      exact (((hall.take _).append hxv).append (hall.drop _)).mono fun _ _ h => h.mono hk fun _ h => h
                    · intro q hq
                      rcases List.mem_or_eq_of_mem_set hq with h1 | h1
                      · exact hul q h1
                      · rw [h1]; simp only [List.length_append, List.length_take, List.length_drop, hvl]; omega
                | _ => rw [hav] at ha; cases ha with | one hc => cases hc
              · cases h
            · cases h
          · cases h
        · cases h
      · cases h
    · cases h
  · rename_i t len parts he
    split at h
    · rename_i e hs
      obtain ⟨i, hi, hi'⟩ := Option.map_eq_some_iff.1 hs
      have hu := (tiOf_spec hi).slice hi'
      split at h
      · rename_i j hj
        split at h
        · rename_i hc
          obtain ⟨hz0, hsm, hpl⟩ := hc
          obtain ⟨rows, hrows, e'⟩ := Option.map_eq_some_iff.1 h
          cases e'
          obtain ⟨it, hit, hsz, hby, z, hz, hzs, hzl⟩ := (tiOf_spec hj).info
          have hplen : (parts.toList.map fun (k, x) => (k, ev x)).length = len := by simp [hpl]
          obtain ⟨fl, h1, h2, h3, h4⟩ := partRows_build (i := j) (pl := fun f => some (f * j.size, j.size)) (fun _ => rfl) _ 0 rows (List.replicate (len * j.size) .any) hrows (by simp [hpl])
          rw [hplen] at h4
          simp only [Nat.zero_mul, List.take_zero, List.nil_append] at h2
          by_cases hlen : len = 0
          · subst hlen
            have hr0 : rows = [] := List.eq_nil_of_length_eq_zero h4
            subst hr0
            have hp0 : parts = #[] := Array.eq_empty_of_size_eq_zero hpl
            subst hp0
            obtain ⟨s1, s2⟩ := arr_sound (w' := w.alloc (.cells #[] e)) (e := e) (k := j.size) (rows := []) (xs := []) (x := .slice (some ⟨w.heap.size, 0, none⟩) 0 0) hr rfl rfl rfl (by simp) (fun b hb => Below.heap_alloc w _ b hb)
              (World.ownsRow_made w #[] 0 (Nat.zero_le _) (Nat.zero_le _) (by simp)) .nil (fun _ h => by simp at h) (fun b hb => by cases hb; exact Nat.le_refl _)
            refine ⟨_, _, _, ?_, s1, .inl ⟨_, rfl, s2⟩⟩
            simp [execOp, he, Instr.buildSlice, run_underlying hu, sizeOf, typeInfo, hit, Instr.fill, newRow, Array.range_zero']
          · have hpos : ¬ len * it.size = 0 := by rw [hsz]; intro h0; rcases Nat.mul_eq_zero.1 h0 with h0 | h0; exact hlen h0; exact hz0 h0
            have hzsz : z.cells.size = j.size := by rw [← hzl]; have := (zVs_rel (w := w) (ok := ok) hzs).length; simpa using this.symm
            have h0 : All2 (CRel w ok μ) (List.replicate (len * j.size) C.any) ((Array.range (len * it.size)).map (z.cells[· % z.cells.size]!)).toList := by
              refine All2.of_get (by simp [hsz]) ?_
              intro q c y hq hy
              have hql := lt_of_getElem? hq
              rw [List.length_replicate] at hql
              rw [List.getElem?_replicate, if_pos hql] at hq
              cases hq
              simp only [Array.toList_map, Array.toList_range, List.getElem?_map, hsz, List.getElem?_range hql, Option.map_some, Option.some.injEq] at hy
              subst hy
              have hmod : q % z.cells.size < z.cells.size := Nat.mod_lt _ (by rw [hzsz]; omega)
              have h5 : z.cells[q % z.cells.size]! = z.cells[q % z.cells.size]'hmod := by simp [hmod]
              rw [h5]
              exact .any (one_allV (zVs_rel (w := w) (ok := ok) hzs) _ (by simp))
            obtain ⟨xs', h5, h6⟩ := fill_sound (i := j) (pl := fun i => some (i * it.size, it.size)) (place := fun f => some (f * j.size, j.size)) (fun f q hq => by rw [hsz]; exact hq) _ (parts.map fun (k, x) => (k, ρ x)).toList _ fl _ (by simpa using parts_rel hev parts.toList) h2 h0
            have hrun := run_buildSlice w t e len (parts.map fun (k, x) => (k, ρ x)) xs' it z hu hit hz (by rw [hsz]; omega) hpos h5
            have hall := vsOf_rel h1 h6
            have hfl := flat_rows h3
            have hxl : xs'.size = len * j.size := by have := hall.length; rw [hfl, h4] at this; simpa using this.symm
            obtain ⟨s1, s2⟩ := arr_sound (w' := w.alloc (.cells xs' e)) (e := e) (k := j.size) (rows := rows) (xs := xs'.toList) (x := .slice (some ⟨w.heap.size, 0, none⟩) len len) hr rfl rfl rfl (by simp) (fun b hb => Below.heap_alloc w _ b hb)
              ⟨by simpa [h4] using hxl, .inr ⟨w.heap.size, len, xs', by rw [h4], Nat.zero_le _, heap_alloc_new w _, by omega, by have : len ≤ len * j.size := Nat.le_mul_of_pos_right _ (by omega); unfold maxLen; omega, hxl, List.take_of_length_le (by simp [h4]; omega)⟩⟩ hall h3 (fun b hb => by cases hb; exact Nat.le_refl _)
            refine ⟨_, _, _, ?_, s1, .inl ⟨_, rfl, s2⟩⟩
            simp [execOp, he, hrun]
        · cases h
      · cases h
    · cases h
  · rename_i t l c he
    split at h
    · rename_i e q m hs hl hm
      obtain ⟨i, hi, hi'⟩ := Option.map_eq_some_iff.1 hs
      have hu := (tiOf_spec hi).slice hi'
      split at h
      · rename_i j hj
        split at h
        · rename_i hz0
          cases h
          obtain ⟨rfl, g0, g1, g2⟩ := hp''
          obtain ⟨it, hit, hsz, hby, z, hz, hzs, hzl⟩ := (tiOf_spec hj).info
          obtain ⟨kl, hkl⟩ := intOfAV_rel hl (hev l)
          obtain ⟨kc, hkc⟩ := intOfAV_rel hm (hev c)
          have hrun := run_make (P := P) w t e it z hu hit hz kl kc q q g0 (Int.le_refl _) (by rw [hby]; exact g1) g2
          have hzsz : z.cells.size = j.size := by rw [← hzl]; have := (zVs_rel (w := w) (ok := ok) hzs).length; simpa using this.symm
          have hall := madeCells_rel (w := w) (ok := ok) (zVs_rel hzs) q.toNat
          rw [hzsz] at hall
          obtain ⟨s1, s2⟩ := arr_sound (w' := w.alloc (.cells (madeCells z.cells (q.toNat * it.size)) e)) (e := e) (k := j.size) (rows := List.replicate q.toNat j.zero) (xs := (madeCells z.cells (q.toNat * j.size)).toList) (x := .slice (some ⟨w.heap.size, 0, none⟩) q.toNat q.toNat) hr rfl rfl rfl (by simp) (fun b hb => Below.heap_alloc w _ b hb)
              ⟨by simp [size_madeCells], .inr ⟨w.heap.size, q.toNat, _, by simp, Nat.zero_le _, heap_alloc_new w _, by simp, by unfold maxLen; omega, by rw [size_madeCells, hsz], by rw [hsz]; exact List.take_of_length_le (by simp [size_madeCells])⟩⟩ hall (fun r hr => by rw [(List.mem_replicate.1 hr).2]; exact hzl) (fun b hb => by cases hb; exact Nat.le_refl _)
          refine ⟨_, _, _, ?_, s1, .inl ⟨_, rfl, s2⟩⟩
          simp [execOp, he, hkl, hkc, hrun]
        · cases h
      · cases h
    · cases h
  · rename_i args ts he
    split at h
    · rename_i s x t u hargs hts
      obtain rfl : args = #[s, x] := by apply Array.ext'; simpa using hargs
      obtain rfl : ts = #[t, u] := by apply Array.ext'; simpa using hts
      split at h
      · rename_i e hs
        obtain ⟨i, hi, hi'⟩ := Option.map_eq_some_iff.1 hs
        have hu := (tiOf_spec hi).slice hi'
        split at h
        · rename_i j new hj hnew
          by_cases hc : (j.size != 0 && (if isStrSh ((tiOf P u).map TI.sh) then j.size == 1 && j.bytes == 1 && isU8 P e else t == u)) = true
          · rw [if_pos hc] at h
            obtain ⟨it, hit, hsz, hby, z, hz, hzs, hzl⟩ := (tiOf_spec hj).info
            have hzsz : z.cells.size = j.size := by rw [← hzl]; have := (zVs_rel (w := w) (ok := ok) hzs).length; simpa using this.symm
            have hexec : (execOp ρ o).run P w = ((Builtin.append_ #[t, u] o.type #[ρ s, ρ x]).run P w).andThen fun v w' => .ok (.value v) w' := by
              simp [execOp, he, resolve, invoke, builtin]
            rw [Bool.and_eq_true] at hc
            obtain ⟨hc0, hc1⟩ := hc
            have hpos : 0 < j.size := by have : j.size ≠ 0 := by simpa using hc0
                                         omega
            -- one run of append, onto what is owned
            have main : ∀ (v : Value) (m : Nat) (xs : List Value), w.ownsRow 0 e j.size v m xs → UL j.size new → m + new.length ≤ 9223372036854775807 → (m + new.length) * j.bytes ≤ 140737488355328 → ρ s = v →
                ∃ v' w' ys, (Builtin.append_ #[t, u] o.type #[ρ s, ρ x]).run P w = .ok v' w' ∧ w'.ownsRow 0 e j.size v' (m + new.length) (xs ++ ys) ∧ All2 (VRel w ok) new.flatten ys ∧ w.grownBy w' v.ownBlock ∧ (∀ b, v'.ownBlock = some b → v.ownBlock = some b ∨ w.heap.size ≤ b) := by
              intro v m xs hown hul h63 hbytes hv
              have hx := hev x
              cases hstr : isStrSh ((tiOf P u).map TI.sh) with
              | true =>
                rw [hstr] at hc1
                simp only [if_true, Bool.and_eq_true, beq_iff_eq] at hc1
                obtain ⟨⟨q1, q2⟩, q3⟩ := hc1
                have hsu : (tiOf P u).map TI.sh = some .string := by
                  unfold isStrSh at hstr; split at hstr <;> first | assumption | cases hstr
                rw [hsu] at hnew
                simp only [srcRows] at hnew
                split at hnew
                · rename_i str hxe
                  cases hnew
                  rw [hxe] at hx
                  have hxv := lit_rel hx
                  obtain ⟨iu, hiu, hiu'⟩ := Option.map_eq_some_iff.1 hsu
                  have huu := (tiOf_spec hiu).string hiu'
                  have hzz : it.zero = some (.int .u8 0) := by
                    unfold isU8 at q3
                    rw [hit, Option.bind_some] at q3
                    split at q3
                    · assumption
                    · cases q3
                  have hlen := strRows_len str
                  obtain ⟨v', w', r1, r2, r3, r4⟩ := append_own_str (P := P) (w := w) t u o.type e it hu huu hit hzz (by rw [hsz, q1]) (by rw [hby, q2]) v m xs (by rw [← q1]; exact hown) str (by rw [← hlen]; omega) (by rw [← hlen]; rw [q2] at hbytes; omega)
                  exact ⟨v', w', Lib.strCells str, by rw [hv, hxv]; exact r1, by rw [q1, hlen]; exact r2, strRows_rel str, r3, r4⟩
                · cases hnew
              | false =>
                rw [hstr] at hc1
                simp only [Bool.false_eq_true, if_false, beq_iff_eq] at hc1
                subst hc1
                rw [hs] at hnew
                simp only [srcRows] at hnew
                rcases rowsOf_rel hr hnew hx with ⟨hxv, hn⟩ | ⟨b, off, cap, hxv, _, _, hcell⟩
                · subst hn
                  have hrun := run_append_owned_none (P := P) (w := w) 0 t o.type e it j.size hu hit v m xs hown
                  exact ⟨v, w, [], by rw [hv, hxv]; exact hrun, by simpa using hown, .nil, ⟨rfl, rfl, rfl, Nat.le_refl _, fun _ _ _ => rfl⟩, fun b hb => .inl hb⟩
                · obtain ⟨ys, hall, hc⟩ := rows_cells hul hcell
                  have hyl : ys.length = new.length * j.size := by rw [← hall.length, flat_rows hul]
                  obtain ⟨v', w', r1, r2, r3, r4⟩ := append_own2 (P := P) (w := w) t o.type e it z j.size j.bytes hu hit hz hsz hby hzsz v m xs hown ⟨b, off, none⟩ new.length cap ys hyl hc (one_allV hall) (by omega) hbytes
                  exact ⟨v', w', ys, by rw [hv, hxv]; exact r1, r2, hall, r3, r4⟩
            have hs' := hev s
            split at h
            · rename_i b hse
              rw [hse] at hs'
              split at h
              · rename_i e' k rows hb
                split at h
                · rename_i hek
                  obtain ⟨rfl, rfl⟩ := hek
                  cases h
                  obtain ⟨hul, g1, g2⟩ := hp''
                  obtain ⟨m, hm, hbr⟩ := hr.rel _ _ hb
                  cases hs' with | one hc => cases hc with | ar hμ _ =>
                  rw [hμ] at hm; cases hm
                  obtain ⟨xs, hown, hall, hkk⟩ := hbr
                  obtain ⟨v', w', ys, r1, r2, r3, r4, r5⟩ := main _ _ xs hown hul g1 g2 rfl
                  have hk : ∀ q, ok q → w'.heap[q]? = w.heap[q]? := fun q hq => grown_frame r4 (hr.keep hq).1 ((hr.okn q hq).2 b _ _ hb hμ)
                  have ho1 : v'.oneCell' = true := by rcases r2.2 with ⟨rfl, _⟩ | ⟨g, cap, cur, rfl, _⟩ <;> rfl
                  refine ⟨.value v', w', _, by rw [hexec, r1]; rfl, step_move (w' := w') (m' := .arr v') (blk' := .arr e' j.size (rows ++ new)) hr hb hμ r4.os r4.tape r4.output r4.size (fun q hq hn => grown_frame r4 hq hn) ⟨xs ++ ys, by simpa using r2, ?_, ?_⟩ r5, .inl ⟨v', rfl, .one (.ar ?_ ho1)⟩⟩
                  · rw [List.flatten_append]; exact (hall.append r3).mono fun _ _ h => h.mono hk fun _ h => h
                  · intro q hq; rcases List.mem_append.1 hq with h1 | h1
                    · exact hkk q h1
                    · exact hul q h1
                  · rw [← hr.len]; simp
                · cases h
              · cases h
            · rename_i hse
              rw [hse] at hs'
              cases h
              obtain ⟨hul, g1, g2⟩ := hp''
              have hsv : ρ s = .slice none 0 0 := by
                cases hsv : ρ s with
                | slice a l c => rw [hsv] at hs'; cases hs' with | one hc => cases hc; rfl
                | _ => rw [hsv] at hs'; cases hs' with | one hc => cases hc
              obtain ⟨v', w', ys, r1, r2, r3, r4, r5⟩ := main _ 0 [] (World.ownsRow_nil w 0 e j.size) hul (by omega) (by simpa using g2) hsv
              obtain ⟨s1, s2⟩ := arr_sound (w' := w') (e := e) (k := j.size) (rows := new) (xs := ys) (x := v') hr r4.os r4.tape r4.output r4.size (fun q hq => grown_frame r4 hq (by simp [Value.ownBlock])) (by simpa using r2) r3 hul (fun b hb => by rcases r5 b hb with h1 | h1; cases h1; exact h1)
              exact ⟨.value v', w', _, by rw [hexec, r1]; rfl, s1, .inl ⟨v', rfl, s2⟩⟩
            · rename_i rows hse
              rw [hse] at hs'
              split at h
              · cases h
              · rename_i hstr
                cases h
                obtain ⟨hul, hulr, g0, g1, g2⟩ := hp''
                rw [if_neg hstr] at hc1
                have htu : t = u := by simpa using hc1
                subst htu
                have hsv : ∃ a, ρ s = .slice a rows.length rows.length ∧ VRel w ok (.sl rows) (.slice a rows.length rows.length) := by
                  cases hsv : ρ s with
                  | slice a l c => rw [hsv] at hs'; cases hs' with | one hc => cases hc with | full hc => exact ⟨a, rfl, hc⟩
                  | _ => rw [hsv] at hs'; cases hs' with | one hc => cases hc
                obtain ⟨sa, hsv, hsr⟩ := hsv
                rw [hs] at hnew
                simp only [srcRows] at hnew
                rcases rowsOf_rel hr hnew (hev x) with ⟨hxv, hn⟩ | ⟨b, off, cap, hxv, _, _, hcell⟩
                · subst hn; simp at g0
                · obtain ⟨ys, hall, hcy⟩ := rows_cells hul hcell
                  have hyl : ys.length = new.length * j.size := by rw [← hall.length, flat_rows hul]
                  rcases RowsAt.of_v hsr with ⟨he1, he2⟩ | ⟨bs, os, cs, he1, _, _, hcs⟩
                  · subst he2
                    cases he1
                    obtain ⟨v', w', r1, r2, r4, r5⟩ := append_own2 (P := P) (w := w) t o.type e it z j.size j.bytes hu hit hz hsz hby hzsz (.slice none 0 0) 0 [] (World.ownsRow_nil w 0 e j.size) ⟨b, off, none⟩ new.length cap ys hyl hcy (one_allV hall) (by simpa using g1) (by simpa using g2)
                    obtain ⟨s1, s2⟩ := arr_sound (w' := w') (e := e) (k := j.size) (rows := [] ++ new) (xs := ys) (x := v') hr r4.os r4.tape r4.output r4.size (fun q hq => grown_frame r4 hq (by simp [Value.ownBlock])) (by simpa using r2) (by simpa using hall) (by simpa using hul) (fun b hb => by rcases r5 b hb with h1 | h1; cases h1; exact h1)
                    exact ⟨.value v', w', _, by rw [hexec, hsv, hxv]; simp only [List.length_nil]; rw [r1]; rfl, s1, .inl ⟨v', rfl, s2⟩⟩
                  · cases he1
                    obtain ⟨xs, hallx, hcx⟩ := rows_cells hulr hcs
                    have hxl : xs.length = rows.length * j.size := by rw [← hallx.length, flat_rows hulr]
                    have hr1 := run_append_grow (P := P) w t o.type e it z hu hit hz ⟨bs, os, none⟩ rows.length rows.length xs (by rw [hsz]; exact hxl) hcx ⟨b, off, none⟩ new.length cap ys (by rw [hsz]; exact hyl) hcy (by omega) (by omega) (growslice_fits (by omega) (by rw [hby]; exact g2))
                    have hmx : rows.length + new.length ≤ maxLen := by unfold maxLen; omega
                    have ho := grown_owns (w := w) (e := e) hzsz hxl hyl (grownCap_ge w _ rows.length e) (grownCap_le_maxLen w _ rows.length e hmx)
                    have hul2 : UL j.size (rows ++ new) := by
                      intro q hq; rcases List.mem_append.1 hq with h1 | h1
                      · exact hulr q h1
                      · exact hul q h1
                    obtain ⟨s1, s2⟩ := arr_sound (w' := w.drew.alloc (.cells (xs.toArray ++ ys.toArray ++ Builtin.zeroCells z.cells (grownCap w (rows.length + new.length) rows.length e - (rows.length + new.length))) e)) (e := e) (k := j.size) (rows := rows ++ new) (xs := xs ++ ys) hr (grown_by (row := none) _).os (grown_by (row := none) _).tape (grown_by (row := none) _).output (grown_by (row := none) _).size (fun q hq => grown_frame (grown_by (row := none) _) hq (by simp)) (by simpa using ho) (by rw [List.flatten_append]; exact hallx.append hall) hul2 (fun b hb => by cases hb; exact Nat.le_refl _)
                    exact ⟨_, _, _, by rw [hexec, hsv, hxv, hr1]; rfl, s1, .inl ⟨_, rfl, s2⟩⟩
            · cases h
          · rw [if_neg hc] at h; cases h
        · cases h
      · cases h
    · cases h
  · cases h

end
end Go.Proofs.AE
