/- The abstract evaluator, part 11c: the operations on own memory of known room do what the evaluator says. -/
import Derived.Test.YtniihihcklpdgaaAeArj
set_option linter.unusedVariables false
set_option linter.unusedSimpArgs false
namespace Go.Proofs.AE
open Go Go.RowKit
section
variable {P : Program} {w w' : World} {ok ok' : Nat → Prop} {μ μ' : List MB} {hp hp' : Hp}

theorem subOf_slice {x y : Value} {k off len : Nat} {l h cap : Nat} {a : Option Addr} {n : Nat} (hs : SubOf k off len x y) (hy : y = .slice a n cap) (h1 : l ≤ h) (h2 : h ≤ cap) (hoff : ∀ b m c, x = .slice (some b) m c → off ≤ c ∧ b.spot = none) : SubOf k (off + l) (h - l) x (sliced a l h cap k) := by
  cases hs with
  | nil h0 =>
    cases hy
    have : h = 0 := by omega
    subst this
    have : l = 0 := by omega
    subst this
    simpa [sliced] using SubOf.nil (k := k) (off := off) rfl
  | «at» ho =>
    rename_i a' n' c o
    cases hy
    obtain ⟨hoc, hsp⟩ := hoff _ _ _ rfl
    unfold sliced
    split
    · rename_i hc
      rw [show c - off - l = c - (off + l) by omega]
      refine .at fun hh => ?_
      rcases hh with hh | hh
      · omega
      · have h3 : off = 0 := by omega
        have h4 : l = 0 := by omega
        subst h3; subst h4
        simpa using ho (.inr rfl)
    · have ea : (⟨a'.block, o, a'.spot⟩ : Addr).add (l * k) = ⟨a'.block, o + l * k, a'.spot⟩ := by rw [hsp]; exact Addr.add_lit ..
      simp only [Option.map_some, ea]
      rw [show c - off - l = c - (off + l) by omega]
      refine .at fun hh => ?_
      have := ho (by omega)
      rw [this, Nat.add_mul]; omega

/-- A slice expression. -/
theorem sliceJ_sound {t e : TypeId} {j : TI} {v r : AV} {x : Value} {lo hi mx : Option AV} {xl xh xm : Option Value} {p : Prop} (hr : HR w ok μ hp) (hv : AVRel w ok μ v x) (hu : P.underlying t = some (.slice e)) (hj : tiOf P e = some j)
    (vl : ∀ v, lo = some v → ∃ x, xl = some x ∧ AVRel w ok μ v x) (nl : lo = none → xl = none)
    (vh : ∀ v, hi = some v → ∃ x, xh = some x ∧ AVRel w ok μ v x) (nh : hi = none → xh = none)
    (vm : ∀ v, mx = some v → ∃ x, xm = some x ∧ AVRel w ok μ v x) (nm : mx = none → xm = none)
    (h : sliceJ j.size hp v lo hi mx = some (p, r)) (hp0 : p) : ∃ z, (Instr.sliceAt t x xl xh xm).run P w = .ok z w ∧ AVRel w ok μ r z := by
  unfold sliceJ at h
  split at h
  · rename_i i k' off len
    split at h
    · rename_i e' k'' c rows hi'
      split at h
      · rename_i hk
        obtain ⟨rfl, rfl⟩ := hk
        split at h
        · rename_i l hh hl hhb
          obtain ⟨m, hμ, hk0, hul, hc⟩ := sub_rel (v := .any) hr hv hi'
          have hs : SubOf j.size off len m x := by
            cases hv with | one hc => cases hc with | sub _ _ _ hμ' hs => rw [hμ] at hμ'; cases hμ'; exact hs
          have key : ∃ a cap, x = .slice a len cap ∧ cap = c - off := by
            rcases hc with ⟨_, rfl, rfl, _, rfl⟩ | ⟨g, n, cur, o, _, rfl, _⟩
            · exact ⟨none, 0, rfl, by omega⟩
            · exact ⟨_, _, rfl, rfl⟩
          obtain ⟨a, cap, rfl, rfl⟩ := key
          have hoffc : ∀ b m' c', m = .slice (some b) m' c' → c' = c ∧ b.spot = none := by
            intro b m' c' hm
            rcases hc with ⟨rfl, _⟩ | ⟨g, n, cur, o, rfl, _⟩
            · cases hm
            · cases hm; exact ⟨rfl, rfl⟩
          split at h
          · cases h
            obtain rfl := nm rfl
            obtain ⟨h0, h1, h2⟩ := hp0
            obtain ⟨r1, _⟩ := run_slice_J (a := a) (cap := c - off) hu hj vl nl vh nh hl hhb h0 h1 (xm := none)
            refine ⟨_, r1 rfl (by omega), .one (.sub _ _ _ hμ (subOf_slice hs rfl (by omega) (by omega) fun b m' c' hm => ?_))⟩
            obtain ⟨h8, h9⟩ := hoffc b m' c' hm
            exact ⟨by omega, h9⟩
          · rename_i mv
            split at h
            · rename_i mm hv' hm1
              cases h
              obtain ⟨xm', rfl, hmr⟩ := vm _ rfl
              obtain ⟨km, rfl⟩ := intOfAV_rel hm1 hmr
              obtain ⟨h0, h1, h2, h3⟩ := hp0
              obtain ⟨_, r2⟩ := run_slice_J (a := a) (cap := c - off) hu hj vl nl vh nh hl hhb h0 h1 (xm := some (.int km mm))
              exact ⟨_, r2 km mm rfl ⟨_, rfl⟩ h2 (by omega), .any⟩
            · cases h
        · cases h
      · cases h
    · cases h
  · rename_i i
    split at h
    · rename_i e' k' rows hi'
      split at h
      · rename_i hk
        subst hk
        split at h
        · rename_i l hh hl hhb
          cases h
          obtain rfl := nm rfl
          obtain ⟨h0, h1, h2⟩ := hp0
          obtain ⟨m, hm, hb⟩ := hr.rel _ _ hi'
          cases hv with | one hc => cases hc with | ar hμ _ =>
          rw [hμ] at hm; cases hm
          obtain ⟨xs, hown, hall, hul⟩ := hb
          rcases hown.2 with ⟨rfl, hn⟩ | ⟨g, cap, cur, rfl, _, hg, hnc, hcm, hcs, htake⟩
          · have hh0 : hh.toNat = 0 := by omega
            have hl0 : l.toNat = 0 := by omega
            have r1 := (run_slice_J (a := none) (len := rows.length) (cap := 0) hu hj vl nl vh nh hl hhb h0 h1 (xm := none)).1 rfl (by omega)
            rw [hn] at r1
            refine ⟨_, r1, .one (.sub _ _ _ hμ ?_)⟩
            rw [hh0, hl0]
            simpa [sliced] using SubOf.nil (k := j.size) (off := 0) rfl
          · have r1 := (run_slice_J (a := some ⟨g, 0, none⟩) (len := rows.length) (cap := cap) hu hj vl nl vh nh hl hhb h0 h1 (xm := none)).1 rfl (by omega)
            refine ⟨_, r1, .one (.sub _ _ _ hμ ?_)⟩
            have := subOf_slice (x := .slice (some ⟨g, 0, none⟩) rows.length cap) (k := j.size) (off := 0) (len := rows.length) (l := l.toNat) (h := hh.toNat) (.at (o := 0) fun _ => by simp) rfl (by omega) (by omega) (fun _ _ _ h => by cases h; exact ⟨Nat.zero_le _, rfl⟩)
            simpa using this
        · cases h
      · cases h
    · cases h
  · cases h

/-- What the operations say. -/
abbrev HOut (P : Program) (o : Oper) (ρ : Operand → Value) (w : World) (ok : Nat → Prop) (μ : List MB) (hp hp' : Hp) (r : AV) : Prop :=
  ∃ nx w' μ', (execOp ρ o).run P w = .ok nx w' ∧ Step w ok μ hp w' ok μ' hp' ∧ ((∃ x, nx = .value x ∧ AVRel w' ok μ' r x) ∨ (nx = .skip ∧ r = .any))

theorem zrows_rel {z : Value} {zs : List V} (h : All2 (VRel w ok) zs z.cells.toList) (n : Nat) : All2 (VRel w ok) (List.replicate n zs).flatten (Builtin.zeroCells z.cells n).toList := by
  have := madeCells_rel h n
  exact this

theorem copy_sound {o : Oper} {ρ : Operand → Value} {ev : Operand → AV} (hr : HR w ok μ hp) (hev : ∀ x, AVRel w ok μ (ev x) (ρ x)) {d x : Operand} {t u e : TypeId} {j : TI} {i off len n : Nat} {av : List (List V)}
    (ho : o.op = .call { callee := .builtin .copy, args := #[d, x], argTypes := #[t, u] }) (hu : P.underlying t = some (.slice e)) (hj : tiOf P e = some j) (hd : ev d = .one (.sub i j.size off len)) (hs : srcJ j.size hp (ev x) = some (n, av))
    (hul : UL j.size av) (hav : min n len ≤ av.length) :
    (∀ e' c rows, hp[i]? = some (some (.arj e' j.size c rows)) → off ≤ rows.length → off + len ≤ c → HOut P o ρ w ok μ hp (hp.set i (some (.arj e' j.size c (wrRows rows (av.take (min n len)) off)))) (.one (.v (.lit (.int .i64 (min n len : Nat)))))) ∧
    (∀ e' rows, hp[i]? = some (some (.arr e' j.size rows)) → off + len ≤ rows.length → HOut P o ρ w ok μ hp (hp.set i (some (.arr e' j.size (wrRows rows (av.take (min n len)) off)))) (.one (.v (.lit (.int .i64 (min n len : Nat)))))) := by
  have hdv := hev d
  rw [hd] at hdv
  obtain ⟨sa, sc, xs, hx, hall, hnone, hcell⟩ := srcJ_rel hr (hev x) hs hul (Nat.min_le_left n len) hav
  have hnl : (av.take (min n len)).length = min n len := by rw [List.length_take]; omega
  have hxl : xs.length = min n len * j.size := by rw [← hall.length, flat_rows (hul.take _), hnl]
  have hfr := first_run (P := P) (k := j.size) hx hxl hnone hcell
  have hexec : ∀ {w'}, (Builtin.copy_ #[t, u] o.type #[ρ d, ρ x]).run P w = .ok (.int .i64 (min n len : Nat)) w' → (execOp ρ o).run P w = .ok (.value (.int .i64 (min n len : Nat))) w' := by
    intro w' h
    simp [execOp, ho, resolve, invoke, builtin, h]
  refine ⟨fun e' c rows hi h1 h2 => ?_, fun e' rows hi h1 => ?_⟩
  · obtain ⟨m, hμ, hk0, hulr, hc⟩ := sub_rel (v := .any) hr hdv hi
    rcases hc with ⟨rfl, hdx, rfl, rfl, rfl⟩ | ⟨g, n', cur, oo, rfl, hdx, hoo, hg, hrc, hcm, hcs, hrel⟩
    · have h0 : min n 0 = 0 := by omega
      have hrun := run_copy_to (P := P) (w' := w) t u o.type e j.size hu (run_sizeOf (tiOf_spec hj) w) (base := none) (dLen := 0) (dCap := 0) hx hfr (fun b hb => by cases hb) (fun _ => rfl)
      rw [hdx] at hexec
      refine ⟨_, w, μ, hexec hrun, ?_, .inl ⟨_, rfl, avlit rfl⟩⟩
      have he : hp.set i (some (.arj e' j.size 0 (wrRows [] (av.take (min n 0)) off))) = hp := by
        rw [h0]
        simp only [wrRows, List.take_nil, List.take_zero, List.drop_nil, List.append_nil]
        exact List.ext_getElem? fun q => by
          rw [List.getElem?_set]
          split
          · rename_i e; subst e; rw [hi, if_pos (lt_of_getElem? hi)]
          · rfl
      rw [he]
      exact Step.refl hr
    · by_cases hz : min n len = 0
      · have hxs : xs = [] := List.eq_nil_of_length_eq_zero (by rw [hxl, hz]; omega)
        subst hxs
        have hrun := run_copy_to (P := P) (w' := w) t u o.type e j.size hu (run_sizeOf (tiOf_spec hj) w) (base := some ⟨g, oo, none⟩) (dLen := len) (dCap := c - off) hx hfr (fun b hb => rfl) (fun _ => rfl)
        rw [hdx] at hexec
        have s1 := arj_write (new := []) (xs := []) (off := off) hr hi hμ hk0 hulr (fun _ h => by simp at h) hg hcm hcs hrel hrc h1 (by simp; omega) (by simpa using All2.nil)
        refine ⟨_, _, μ, hexec hrun, ?_, .inl ⟨_, rfl, avlit rfl⟩⟩
        rw [hz]
        have he : w.setRow g (cur.toList.take (off * j.size) ++ [] ++ cur.toList.drop (off * j.size + ([] : List Value).length)).toArray = w := by
          simp only [List.append_nil, List.length_nil, Nat.add_zero, List.take_append_drop, Array.toArray_toList]
          exact setRow_self w g cur _ _ hg
        rw [he] at s1
        exact s1
      · have hooe := hoo (by omega)
        subst hooe
        have hfit : off * j.size + xs.length ≤ cur.size := by
          rw [hxl, hcs, ← Nat.add_mul]; exact Nat.mul_le_mul_right _ (by omega)
        have hst := run_storeCells_at P g (off * j.size) e' xs 0 cur w hg (by simpa using hfit) (one_allV hall)
        simp only [Nat.add_zero] at hst
        have hrun := run_copy_to (P := P) t u o.type e j.size hu (run_sizeOf (tiOf_spec hj) w) (base := some ⟨g, off * j.size, none⟩) (dLen := len) (dCap := c - off) hx hfr (fun b hb => by cases hb; exact hst) (fun h => by cases h)
        rw [hdx] at hexec
        exact ⟨_, _, μ, hexec hrun, arj_write hr hi hμ hk0 hulr (hul.take _) hg hcm hcs hrel hrc h1 (by rw [hnl]; omega) hall, .inl ⟨_, rfl, avlit rfl⟩⟩
  · obtain ⟨m, hμ, hb⟩ := hr.rel _ _ hi
    cases m with
    | box => exact hb.elim
    | arr y =>
    have hs : SubOf j.size off len y (ρ d) := by
      cases hdv with | one hc => cases hc with | sub _ _ _ hμ' hs => rw [hμ] at hμ'; cases hμ'; exact hs
    obtain ⟨ys, hown, hallr, hulr⟩ := hb
    rcases hown.2 with ⟨rfl, hn⟩ | ⟨g, cap, cur, rfl, _, hg, hnc, hcm, hcs, htake⟩
    · have hlen : len = 0 := by omega
      subst hlen
      have h0 : min n 0 = 0 := by omega
      have hdx : ρ d = .slice none 0 0 := by generalize ρ d = y at hs; cases hs; rfl
      have hrun := run_copy_to (P := P) (w' := w) t u o.type e j.size hu (run_sizeOf (tiOf_spec hj) w) (base := none) (dLen := 0) (dCap := 0) hx hfr (fun b hb => by cases hb) (fun _ => rfl)
      rw [hdx] at hexec
      refine ⟨_, w, μ, hexec hrun, ?_, .inl ⟨_, rfl, avlit rfl⟩⟩
      have hre : rows = [] := List.eq_nil_of_length_eq_zero hn
      subst hre
      have he : hp.set i (some (.arr e' j.size (wrRows [] (av.take (min n 0)) off))) = hp := by
        rw [h0]
        simp only [wrRows, List.take_nil, List.take_zero, List.drop_nil, List.append_nil]
        exact List.ext_getElem? fun q => by
          rw [List.getElem?_set]
          split
          · rename_i e; subst e; rw [hi, if_pos (lt_of_getElem? hi)]
          · rfl
      rw [he]
      exact Step.refl hr
    · have hrel : All2 (VRel w ok) rows.flatten (cur.toList.take (rows.length * j.size)) := by rw [htake]; exact hallr
      obtain ⟨oo, hdx, hoo⟩ : ∃ oo, ρ d = .slice (some ⟨g, oo, none⟩) len (cap - off) ∧ ((off < cap ∨ off = 0) → oo = off * j.size) := by
        generalize ρ d = y at hs
        cases hs with | «at» h => exact ⟨_, rfl, fun h' => by simpa using h h'⟩
      by_cases hz : min n len = 0
      · have hxs : xs = [] := List.eq_nil_of_length_eq_zero (by rw [hxl, hz]; omega)
        subst hxs
        have hrun := run_copy_to (P := P) (w' := w) t u o.type e j.size hu (run_sizeOf (tiOf_spec hj) w) (base := some ⟨g, oo, none⟩) (dLen := len) (dCap := cap - off) hx hfr (fun b hb => rfl) (fun _ => rfl)
        rw [hdx] at hexec
        have s1 := arr_write (new := []) (xs := []) (off := off) hr hi hμ hulr (fun _ h => by simp at h) hg rfl hnc hcm hcs hrel (by simp; omega) (by simpa using All2.nil)
        refine ⟨_, _, μ, hexec hrun, ?_, .inl ⟨_, rfl, avlit rfl⟩⟩
        rw [hz]
        have he : w.setRow g (cur.toList.take (off * j.size) ++ [] ++ cur.toList.drop (off * j.size + ([] : List Value).length)).toArray = w := by
          simp only [List.append_nil, List.length_nil, Nat.add_zero, List.take_append_drop, Array.toArray_toList]
          exact setRow_self w g cur _ _ hg
        rw [he] at s1
        exact s1
      · have hooe := hoo (by omega)
        subst hooe
        have hfit : off * j.size + xs.length ≤ cur.size := by
          rw [hxl, hcs, ← Nat.add_mul]; exact Nat.mul_le_mul_right _ (by omega)
        have hst := run_storeCells_at P g (off * j.size) e' xs 0 cur w hg (by simpa using hfit) (one_allV hall)
        simp only [Nat.add_zero] at hst
        have hrun := run_copy_to (P := P) t u o.type e j.size hu (run_sizeOf (tiOf_spec hj) w) (base := some ⟨g, off * j.size, none⟩) (dLen := len) (dCap := cap - off) hx hfr (fun b hb => by cases hb; exact hst) (fun h => by cases h)
        rw [hdx] at hexec
        exact ⟨_, _, μ, hexec hrun, arr_write hr hi hμ hulr (hul.take _) hg rfl hnc hcm hcs hrel (by rw [hnl]; omega) hall, .inl ⟨_, rfl, avlit rfl⟩⟩

theorem clear_sound {o : Oper} {ρ : Operand → Value} {ev : Operand → AV} (hr : HR w ok μ hp) (hev : ∀ x, AVRel w ok μ (ev x) (ρ x)) {x : Operand} {t e e' : TypeId} {j : TI} {i off len c : Nat} {rows : List (List V)}
    (ho : o.op = .call { callee := .builtin .clear, args := #[x], argTypes := #[t] }) (hu : P.underlying t = some (.slice e)) (hj : tiOf P e = some j) (hd : ev x = .one (.sub i j.size off len)) (hi : hp[i]? = some (some (.arj e' j.size c rows)))
    (hle : off + len ≤ rows.length) : HOut P o ρ w ok μ hp (hp.set i (some (.arj e' j.size c (wrRows rows (List.replicate len j.zero) off)))) .any := by
  have hdv := hev x
  rw [hd] at hdv
  obtain ⟨it, hit, hsz, hby, z, hz, hzs, hzl⟩ := (tiOf_spec hj).info
  have hzz := zVs_rel (w := w) (ok := ok) hzs
  have hul0 : UL j.size (List.replicate len j.zero) := fun r hr => by rw [(List.mem_replicate.1 hr).2]; exact hzl
  have hall := zrows_rel hzz len
  obtain ⟨m, hμ, hk0, hulr, hc⟩ := sub_rel (v := .any) hr hdv hi
  have hzv : (zeroValue e).run P w = .ok z w := by simp [zeroValue, typeInfo, hit, hz]
  rcases hc with ⟨rfl, hdx, rfl, rfl, rfl⟩ | ⟨g, n', cur, oo, rfl, hdx, hoo, hg, hrc, hcm, hcs, hrel⟩
  · refine ⟨.value (.tuple #[]), w, μ, ?_, ?_, .inl ⟨_, rfl, .any⟩⟩
    · simp [execOp, ho, resolve, invoke, builtin, hdx, Builtin.clear_, run_underlying hu]
    · have he : hp.set i (some (.arj e' j.size 0 (wrRows [] (List.replicate 0 j.zero) off))) = hp := by
        simp only [wrRows, List.take_nil, List.replicate_zero, List.drop_nil, List.append_nil]
        exact List.ext_getElem? fun q => by
          rw [List.getElem?_set]
          split
          · rename_i e; subst e; rw [hi, if_pos (lt_of_getElem? hi)]
          · rfl
      rw [he]
      exact Step.refl hr
  · by_cases hz0 : len = 0
    · subst hz0
      have s1 := arj_write (new := []) (xs := []) (off := off) hr hi hμ hk0 hulr (fun _ h => by simp at h) hg hcm hcs hrel hrc (by omega) (by simp; omega) (by simpa using All2.nil)
      have he : w.setRow g (cur.toList.take (off * j.size) ++ [] ++ cur.toList.drop (off * j.size + ([] : List Value).length)).toArray = w := by
        simp only [List.append_nil, List.length_nil, Nat.add_zero, List.take_append_drop, Array.toArray_toList]
        exact setRow_self w g cur _ _ hg
      rw [he] at s1
      refine ⟨.value (.tuple #[]), w, μ, ?_, s1, .inl ⟨_, rfl, .any⟩⟩
      simp [execOp, ho, resolve, invoke, builtin, hdx, Builtin.clear_, run_underlying hu]
    · have hooe := hoo (by omega)
      subst hooe
      have hxl : (Builtin.zeroCells z.cells len).toList.length = len * j.size := by rw [← hall.length, flat_rows hul0]; simp
      have hfit : off * j.size + (Builtin.zeroCells z.cells len).toList.length ≤ cur.size := by
        rw [hxl, hcs, ← Nat.add_mul]; exact Nat.mul_le_mul_right _ (by omega)
      have hst := run_storeCells_at P g (off * j.size) e' (Builtin.zeroCells z.cells len).toList 0 cur w hg (by simpa using hfit) (one_allV hall)
      simp only [Nat.add_zero] at hst
      refine ⟨.value (.tuple #[]), _, μ, ?_, arj_write hr hi hμ hk0 hulr hul0 hg hcm hcs hrel hrc (by omega) (by simp; omega) hall, .inl ⟨_, rfl, .any⟩⟩
      have hzv' : ∀ w, (zeroValue e).run P w = .ok z w := fun w => by simp [zeroValue, typeInfo, hit, hz]
      obtain ⟨q, rfl⟩ : ∃ q, len = q + 1 := ⟨len - 1, by omega⟩
      obtain ⟨w2, hw2⟩ : ∃ w2, w.setRow g (cur.toList.take (off * j.size) ++ (Builtin.zeroCells z.cells (q + 1)).toList ++ cur.toList.drop (off * j.size + (Builtin.zeroCells z.cells (q + 1)).toList.length)).toArray = w2 := ⟨_, rfl⟩
      rw [hw2] at hst ⊢
      have hrun : (Builtin.clear_ #[t] o.type #[.slice (some ⟨g, off * j.size, none⟩) (q + 1) (c - off)]).run P w = .ok (.tuple #[]) w2 := by
        simp [Builtin.clear_, run_underlying hu, hzv', hst]
      simp [execOp, ho, resolve, invoke, builtin, hdx, hrun]

/-- append(s, make(S, n)...) where there is no room. -/
theorem zeros_sound {o : Oper} {ρ : Operand → Value} {ev : Operand → AV} (hr : HR w ok μ hp) (hev : ∀ x, AVRel w ok μ (ev x) (ρ x)) {s x : Operand} {t u e : TypeId} {j : TI} {i off len c : Nat} {rows : List (List V)} {n : Int} {kq kn : IntKind}
    (ho : o.op = .call { callee := .builtin .append, args := #[s, x], argTypes := #[t, u] }) (hu : P.underlying t = some (.slice e)) (huu : P.underlying u = some (.int kn)) (hj : tiOf P e = some j) (hs : ev s = .one (.sub i j.size off len)) (hx : ev x = .one (.v (.lit (.int kq n)))) (hi : hp[i]? = some (some (.arj e j.size c rows)))
    (h0 : 0 < n) (h1 : off + len ≤ rows.length) (h2 : c < off + len + n) (h3 : len + n ≤ 9223372036854775807) (h4 : (len + n) * j.bytes ≤ 140737488355328) :
    HOut P o ρ w ok μ hp (hp ++ [some (.arr e j.size ((rows.drop off).take len ++ List.replicate n.toNat j.zero))]) (.one (.ar hp.length)) := by
  have hsv := hev s
  rw [hs] at hsv
  have hxv := hev x
  rw [hx] at hxv
  have hxe := lit_rel hxv
  obtain ⟨it, hit, hsz, hby, z, hz, hzs, hzl⟩ := (tiOf_spec hj).info
  have hzz := zVs_rel (w := w) (ok := ok) hzs
  have hzsz : z.cells.size = j.size := by rw [← hzl]; have := hzz.length; simpa using this.symm
  obtain ⟨m, hμ, hk0, hulr, hc⟩ := sub_rel (v := .any) hr hsv hi
  have hsrc : srcJ j.size hp (.one (.sub i j.size off len)) = some (len, rows.drop off) := by simp [srcJ, hi]
  obtain ⟨a, sc, xs, hsx, hall, hnone, hcell⟩ := srcJ_rel hr hsv hsrc (hulr.drop off) (Nat.le_refl _) (by rw [List.length_drop]; omega)
  have htl : ((rows.drop off).take len).length = len := by rw [List.length_take, List.length_drop]; omega
  have hxl : xs.length = len * j.size := by rw [← hall.length, flat_rows ((hulr.drop off).take len), htl]
  have hsc : sc ≤ c - off := by
    rcases hc with ⟨_, hdx, _, _, _⟩ | ⟨_, _, _, _, _, hdx, _⟩
    · rw [hsx] at hdx; cases hdx; omega
    · rw [hsx] at hdx; cases hdx; exact Nat.le_refl _
  obtain ⟨q, rfl⟩ : ∃ q : Nat, n = q := ⟨n.toNat, by omega⟩
  have hq : ((q : Int)).toNat = q := by omega
  rw [hq]
  have hb : (len + q) * it.bytes ≤ 140737488355328 := by
    rw [hby]
    have h5 : (((len + q) * j.bytes : Nat) : Int) = ((len : Int) + q) * j.bytes := by rw [Int.natCast_mul, Int.natCast_add]
    exact Int.ofNat_le.1 (by rw [h5]; exact h4)
  have hfr := first_run (P := P) (w := w.drew) (k := j.size) hsx hxl hnone (fun b hb j u hu => hcell b hb j u hu)
  rw [hsx] at hfr
  have hb2 : q * it.bytes ≤ 140737488355328 := Nat.le_trans (Nat.mul_le_mul_right _ (by omega)) hb
  have hrun := Lib.run_append_grow_zeros (P := P) w t u o.type e it z kq kn hu huu hit hz a len sc xs (by rw [hsz]; exact hfr) q (by omega) (by rw [hsz]; exact hk0) (by omega) (by omega) (by omega) (growslice_fits (by omega) hb)
  have hmx : len + q ≤ maxLen := by unfold maxLen; omega
  have hallz := zrows_rel hzz q
  have hul0 : UL j.size (List.replicate q j.zero) := fun r hr => by rw [(List.mem_replicate.1 hr).2]; exact hzl
  have hzl2 : (Builtin.zeroCells z.cells q).toList.length = q * j.size := by rw [← hallz.length, flat_rows hul0]; simp
  have hown := grown_owns (w := w) (e := e) hzsz hxl hzl2 (grownCap_ge w (len + q) sc e) (grownCap_le_maxLen w (len + q) sc e hmx)
  simp only [Array.toArray_toList] at hown
  obtain ⟨s1, s2⟩ := arr_sound (rows := (rows.drop off).take len ++ List.replicate q j.zero) (xs := xs ++ (Builtin.zeroCells z.cells q).toList) hr (grown_by (row := none) _).os (grown_by (row := none) _).tape (grown_by (row := none) _).output (grown_by (row := none) _).size (fun q hq => grown_frame (grown_by (row := none) _) hq (by simp))
    (by rw [List.length_append, htl, List.length_replicate]; exact hown) (by rw [List.flatten_append]; exact hall.append hallz) (((hulr.drop off).take len).app hul0) (fun b hb => by cases hb; exact Nat.le_refl _)
  refine ⟨_, _, _, ?_, s1, .inl ⟨_, rfl, s2⟩⟩
  simp only [execOp, ho, resolve, invoke, builtin, List.map_toArray, List.map_cons, List.map_nil, hsx, hxe, Sem.run_bind, Sem.run_pure, Result.andThen_ok]
  rw [hrun]; rfl

/-- append within the same array. -/
theorem shift_sound {o : Oper} {ρ : Operand → Value} {ev : Operand → AV} (hr : HR w ok μ hp) (hev : ∀ x, AVRel w ok μ (ev x) (ρ x)) {s x : Operand} {t e : TypeId} {j : TI} {i len off2 len2 c : Nat} {rows : List (List V)}
    (ho : o.op = .call { callee := .builtin .append, args := #[s, x], argTypes := #[t, t] }) (hu : P.underlying t = some (.slice e)) (hj : tiOf P e = some j) (hs : ev s = .one (.sub i j.size 0 len)) (hx : ev x = .one (.sub i j.size off2 len2)) (hi : hp[i]? = some (some (.arj e j.size c rows)))
    (h1 : len ≤ rows.length) (h2 : off2 + len2 ≤ rows.length) (h3 : len + len2 ≤ c) :
    HOut P o ρ w ok μ hp (hp.set i (some (.arj e j.size c (wrRows rows ((rows.drop off2).take len2) len)))) (.one (.sub i j.size 0 (len + len2))) := by
  have hsv := hev s
  rw [hs] at hsv
  have hxv := hev x
  rw [hx] at hxv
  obtain ⟨it, hit, hsz, hby, z, hz, hzs, hzl⟩ := (tiOf_spec hj).info
  obtain ⟨m, hμ, hk0, hulr, hc⟩ := sub_rel (v := .any) hr hsv hi
  have hsrc : srcJ j.size hp (.one (.sub i j.size off2 len2)) = some (len2, rows.drop off2) := by simp [srcJ, hi]
  obtain ⟨a, sc, xs, hxx, hall, hnone, hcell⟩ := srcJ_rel hr hxv hsrc (hulr.drop off2) (Nat.le_refl _) (by rw [List.length_drop]; omega)
  have htl : ((rows.drop off2).take len2).length = len2 := by rw [List.length_take, List.length_drop]; omega
  have hxl : xs.length = len2 * j.size := by rw [← hall.length, flat_rows ((hulr.drop off2).take len2), htl]
  have hexec : ∀ {v w'}, (Builtin.append_ #[t, t] o.type #[ρ s, ρ x]).run P w = .ok v w' → (execOp ρ o).run P w = .ok (.value v) w' := by
    intro v w' h
    simp [execOp, ho, resolve, invoke, builtin, h]
  rcases hc with ⟨rfl, hsx, rfl, rfl, rfl⟩ | ⟨g, n', cur, oo, rfl, hsx, hoo, hg, hrc, hcm, hcs, hrel⟩
  · have h20 : len2 = 0 := by omega
    subst h20
    have hxn : ρ x = .slice none 0 0 := by
      cases hxv with | one hc => cases hc with | sub _ _ _ hμ' hs' => rw [hμ] at hμ'; cases hμ'; generalize ρ x = y at hs'; cases hs'; rfl
    have hrun : (Builtin.append_ #[t, t] o.type #[ρ s, ρ x]).run P w = .ok (.slice none 0 0) w := by
      rw [hsx, hxn]
      have := run_append_owned_none (P := P) (w := w) 0 t o.type e it j.size hu hit (.slice none 0 0) 0 [] (World.ownsRow_nil w 0 e j.size)
      exact this
    refine ⟨_, w, μ, hexec hrun, ?_, .inl ⟨_, rfl, .one (.sub _ _ _ hμ (.nil (by omega)))⟩⟩
    have he : hp.set i (some (.arj e j.size 0 (wrRows [] ((([] : List (List V)).drop off2).take 0) 0))) = hp := by
      simp only [wrRows, List.take_nil, List.drop_nil, List.append_nil]
      exact List.ext_getElem? fun q => by
        rw [List.getElem?_set]
        split
        · rename_i e; subst e; rw [hi, if_pos (lt_of_getElem? hi)]
        · rfl
    rw [he]
    exact Step.refl hr
  · have hooe := hoo (.inr rfl)
    subst hooe
    have hst := arj_write (off := len) (xs := xs) hr hi hμ hk0 hulr ((hulr.drop off2).take len2) hg hcm hcs hrel hrc h1 (by rw [htl]; omega) hall
    have hoo' : (0 : Nat) * j.size = 0 := Nat.zero_mul _
    rw [hoo', Nat.sub_zero] at hsx
    have hsub : ∀ y, y = Value.slice (some ⟨g, 0, none⟩) (len + len2) c → ∀ w', AVRel w' ok μ (.one (.sub i j.size 0 (len + len2))) y := by
      rintro y rfl w'
      have := SubOf.at (k := j.size) (off := 0) (len := len + len2) (a := ⟨g, 0, none⟩) (n := n') (c := c) (o := 0) (fun _ => by simp)
      exact .one (.sub _ _ _ hμ (by simpa using this))
    cases a with
    | none =>
      have h20 := hnone rfl
      subst h20
      have hxs : xs = [] := List.eq_nil_of_length_eq_zero (by simpa using hxl)
      subst hxs
      have hrun : (Builtin.append_ #[t, t] o.type #[ρ s, ρ x]).run P w = .ok (.slice (some ⟨g, 0, none⟩) (len + 0) c) w := by
        rw [hsx, hxx]
        have hn : len + 0 ≤ c := by omega
        simp [Builtin.append_, run_underlying hu, sizeOf, typeInfo, hit, Builtin.lenOf, Builtin.firstCells, storeCells, (by omega : len ≤ c)]
        intro h; omega
      refine ⟨_, w, μ, hexec hrun, ?_, .inl ⟨_, rfl, hsub _ rfl w⟩⟩
      have he : w.setRow g (cur.toList.take (len * j.size) ++ [] ++ cur.toList.drop (len * j.size + ([] : List Value).length)).toArray = w := by
        simp only [List.append_nil, List.length_nil, Nat.add_zero, List.take_append_drop, Array.toArray_toList]
        exact setRow_self w g cur _ _ hg
      rw [he] at hst
      exact hst
    | some b =>
      have hfit : len * it.size + xs.length ≤ cur.size := by rw [hxl, hcs, hsz, ← Nat.add_mul]; exact Nat.mul_le_mul_right _ (by omega)
      have hrun := run_append_room (P := P) w t o.type e it hu hit g len c cur hg b len2 sc xs (by rw [hsz]; exact hxl) (hcell b rfl) (one_allV hall) (by omega) hfit
      rw [hsz] at hrun
      exact ⟨_, _, μ, hexec (by rw [hsx, hxx]; exact hrun), hst, .inl ⟨_, rfl, hsub _ rfl _⟩⟩

/-- append onto all of it: it is nobody's any more. -/
theorem onto_sound {o : Oper} {ρ : Operand → Value} {ev : Operand → AV} (hr : HR w ok μ hp) (hev : ∀ x, AVRel w ok μ (ev x) (ρ x)) {s x : Operand} {t e : TypeId} {j : TI} {i len c : Nat} {rows new : List (List V)}
    (ho : o.op = .call { callee := .builtin .append, args := #[s, x], argTypes := #[t, t] }) (hu : P.underlying t = some (.slice e)) (hj : tiOf P e = some j) (hs : ev s = .one (.sub i j.size 0 len)) (hx : rowsOf hp (ev x) = some new) (hi : hp[i]? = some (some (.arj e j.size c rows)))
    (hul : UL j.size new) (h1 : len ≤ rows.length) (h3 : len + new.length ≤ 9223372036854775807) (h4 : (len + new.length) * j.bytes ≤ 140737488355328) :
    HOut P o ρ w ok μ hp (hp.set i none ++ [some (.arr e j.size (rows.take len ++ new))]) (.one (.ar hp.length)) := by
  have hsv := hev s
  rw [hs] at hsv
  obtain ⟨it, hit, hsz, hby, z, hz, hzs, hzl⟩ := (tiOf_spec hj).info
  have hzsz : z.cells.size = j.size := by rw [← hzl]; have := (zVs_rel (w := w) (ok := ok) hzs).length; simpa using this.symm
  obtain ⟨m, hμ, hk0, hulr, hc⟩ := sub_rel (v := .any) hr hsv hi
  have hexec : ∀ {v w'}, (Builtin.append_ #[t, t] o.type #[ρ s, ρ x]).run P w = .ok v w' → (execOp ρ o).run P w = .ok (.value v) w' := by
    intro v w' h
    simp [execOp, ho, resolve, invoke, builtin, h]
  have hmi : m.ownBlock = (MB.arr m).own := rfl
  -- it is owned
  have hown : ∃ xs, w.ownsRow 0 e j.size (ρ s) len xs ∧ All2 (VRel w ok) (rows.take len).flatten xs ∧ (ρ s).ownBlock = m.ownBlock := by
    rcases hc with ⟨rfl, hsx, rfl, rfl, rfl⟩ | ⟨g, n', cur, oo, rfl, hsx, hoo, hg, hrc, hcm, hcs, hrel⟩
    · rw [hsx]
      exact ⟨[], World.ownsRow_nil w 0 e j.size, by simpa using All2.nil, rfl⟩
    · have hooe := hoo (.inr rfl)
      subst hooe
      rw [Nat.zero_mul, Nat.sub_zero] at hsx
      have ht := hrel.take (len * j.size)
      rw [← flatten_take len hulr, List.take_take, Nat.min_eq_left (Nat.mul_le_mul_right _ h1)] at ht
      refine ⟨_, ⟨?_, .inr ⟨g, c, cur, hsx, Nat.zero_le _, hg, by omega, hcm, hcs, rfl⟩⟩, ht, by rw [hsx]; rfl⟩
      rw [← ht.length, flat_rows (hulr.take len), List.length_take, Nat.min_eq_left h1]
  obtain ⟨xs, hown, hall, hob⟩ := hown
  have htl : (rows.take len).length = len := by rw [List.length_take]; omega
  have main : ∃ v' w' ys, (Builtin.append_ #[t, t] o.type #[ρ s, ρ x]).run P w = .ok v' w' ∧ w'.ownsRow 0 e j.size v' (len + new.length) (xs ++ ys) ∧ All2 (VRel w ok) new.flatten ys ∧ w.grownBy w' (ρ s).ownBlock ∧ (∀ b, v'.ownBlock = some b → (ρ s).ownBlock = some b ∨ w.heap.size ≤ b) := by
    rcases rowsOf_rel hr hx (hev x) with ⟨hxv, hn⟩ | ⟨b, off, cap, hxv, _, _, hcell⟩
    · subst hn
      have hrun := run_append_owned_none (P := P) (w := w) 0 t o.type e it j.size hu hit (ρ s) len xs hown
      exact ⟨ρ s, w, [], by rw [hxv]; exact hrun, by simpa using hown, .nil, ⟨rfl, rfl, rfl, Nat.le_refl _, fun _ _ _ => rfl⟩, fun b hb => .inl hb⟩
    · obtain ⟨ys, hall, hc⟩ := rows_cells hul hcell
      have hyl : ys.length = new.length * j.size := by rw [← hall.length, flat_rows hul]
      obtain ⟨v', w', r1, r2, r3, r4⟩ := append_own2 (P := P) (w := w) t o.type e it z j.size j.bytes hu hit hz hsz hby hzsz (ρ s) len xs hown ⟨b, off, none⟩ new.length cap ys hyl hc (one_allV hall) (by omega) h4
      exact ⟨v', w', ys, by rw [hxv]; exact r1, r2, hall, r3, r4⟩
  obtain ⟨v', w', ys, r1, r2, r3, r4, r5⟩ := main
  rw [hob] at r4 r5
  have hk : ∀ q, ok q → w'.heap[q]? = w.heap[q]? := fun q hq => grown_frame r4 (hr.keep hq).1 ((hr.okn q hq).2 i _ _ hi hμ)
  have ho1 : v'.oneCell' = true := by rcases r2.2 with ⟨rfl, _⟩ | ⟨g, cap, cur, rfl, _⟩ <;> rfl
  refine ⟨.value v', w', _, hexec r1, step_move (w' := w') (m' := .arr v') (blk' := .arr e j.size (rows.take len ++ new)) hr hi hμ r4.os r4.tape r4.output r4.size (fun q hq hn => grown_frame r4 hq hn) ⟨xs ++ ys, by rw [List.length_append, htl]; exact r2, ?_, (hulr.take len).app hul⟩ r5, .inl ⟨v', rfl, .one (.ar ?_ ho1)⟩⟩
  · rw [List.flatten_append]; exact (hall.append r3).mono fun _ _ h => h.mono hk fun _ h => h
  · rw [← hr.len]; simp

theorem overlaps_sound {o : Oper} {ρ : Operand → Value} {ev : Operand → AV} (hr : HR w ok μ hp) (hev : ∀ x, AVRel w ok μ (ev x) (ρ x)) {fo x y : Operand} {ts : Array TypeId} {g i j k k' k'' off len c : Nat} {e : TypeId} {ti : TI} {rows rows' : List (List V)}
    (ho : o.op = .call { callee := .value fo, args := #[x, y], argTypes := ts }) (hf : ev fo = .fn g [] []) (hx : ev x = .one (.ar i)) (hy : ev y = .one (.sub j k off len)) (hi : hp[i]? = some (some (.arr e k' rows))) (hj : hp[j]? = some (some (.arj e k'' c rows')))
    (hij : i ≠ j) (hti : tiOf P e = some ti) (hov : OvlF P g e) (hc0 : 0 < c) (hr0 : 0 < rows.length) : HOut P o ρ w ok μ hp hp (.one (.v (.lit (.bool false)))) := by
  obtain ⟨fn, tS, tR, h1, h2, h3, h4, h5, h6⟩ := hov
  have hfr := hev fo
  rw [hf] at hfr
  have hxv := hev x
  rw [hx] at hxv
  have hyv := hev y
  rw [hy] at hyv
  have hcall := fun args => run_callFunc_extern (P := P) h1 h2 h3 h4 h5 args w
  obtain ⟨mi, hmi, hbi⟩ := hr.rel _ _ hi
  cases mi with
  | box => exact hbi.elim
  | arr xi =>
  have hρx : ρ x = xi := by cases hxv with | one hc => cases hc with | ar hμ _ => rw [hmi] at hμ; cases hμ; rfl
  obtain ⟨mj, hmj, hbj⟩ := hr.rel _ _ hj
  cases mj with
  | box => exact hbj.elim
  | arr xj =>
  have hs : SubOf k off len xj (ρ y) := by
    cases hyv with | one hc => cases hc with | sub _ _ _ hμ' hs => rw [hmj] at hμ'; cases hμ'; exact hs
  cases hfv : ρ fo with
  | func fnv fs cs =>
    rw [hfv] at hfr
    cases hfr with | fn hfirst hcaps =>
    have hfs : fs = #[] := by cases hh : fs.toList with | nil => exact Array.ext' (by simpa using hh) | cons => rw [hh] at hfirst; cases hfirst
    have hcs : cs = #[] := by cases hh : cs.toList with | nil => exact Array.ext' (by simpa using hh) | cons => rw [hh] at hcaps; cases hcaps
    subst hfs; subst hcs
    have hexec : ∀ {v : Value}, ((Extern.SlicesOverlaps.overlaps #[tS, tS] #[tR]) #[ρ x, ρ y]).run P w = .ok v w → (execOp ρ o).run P w = .ok (.value v) w := by
      intro v hv
      have hc := hcall #[ρ x, ρ y]
      rw [hv] at hc
      simp only [execOp, ho, resolve, hfv, Deferred.ofValue, Sem.run_bind, Sem.run_pure, Result.andThen_ok, invoke, List.map_toArray, List.map_cons, List.map_nil]
      simpa using hc
    have hrun : ((Extern.SlicesOverlaps.overlaps #[tS, tS] #[tR]) #[ρ x, ρ y]).run P w = .ok (.bool false) w := by
      have hbi' := hbi
      obtain ⟨xs, hown, _, _⟩ := hbi
      obtain ⟨hk0, hulj, hbj⟩ := hbj
      have hsz := fun w => run_sizeOf (tiOf_spec hti) w
      rcases hbj with ⟨rfl, rfl, _⟩ | ⟨gj, n', cur, rfl, hg, hrc, hcm, hcs, _⟩
      · omega
      · generalize hyy : ρ y = yv at hs
        cases hs with | «at» ho' =>
        rcases hown.2 with ⟨rfl, hn0⟩ | ⟨gi, cap, curi, rfl, _, hgi, _⟩
        · omega
        · rw [hρx]
          have hne : gi ≠ gj := fun e' => hr.inj i j _ _ _ _ gi hij hi hj hmi hmj rfl (by subst e'; rfl)
          refine Lib.run_overlaps_apart (P := P) w tS tR e h6 ti.size hsz ⟨gi, 0, none⟩ ⟨gj, _, none⟩ _ _ _ _ hne e e curi.size cur.size ?_ ?_ ?_ ?_ ?_
          · simp [World.shape?, hgi]
          · simp [World.shape?, hg]
          · rw [hcs]; exact Nat.mul_ne_zero (by omega) (by omega)
          · simp [World.frozen?, hgi]
          · simp [World.frozen?, hgi]
    exact ⟨_, w, μ, hexec hrun, Step.refl hr, .inl ⟨_, rfl, avlit rfl⟩⟩
  | _ => rw [hfv] at hfr; cases hfr

theorem arjOp_sound {o : Oper} {ρ : Operand → Value} {ev : Operand → AV} {p : Prop} {r : AV} (hr : HR w ok μ hp) (hev : ∀ x, AVRel w ok μ (ev x) (ρ x))
    (h : arjOp P hp ev o.op = some (p, r, hp')) (hp0 : p) : HOut P o ρ w ok μ hp hp' r := by
  unfold arjOp at h
  split at h
  · rename_i t x lo hi mx ho
    split at h
    · rename_i e hs
      obtain ⟨i, hi1, hi2⟩ := Option.map_eq_some_iff.1 hs
      have hu := (tiOf_spec hi1).slice hi2
      split at h
      · rename_i j hj
        obtain ⟨⟨p', v'⟩, h1, h2⟩ := Option.map_eq_some_iff.1 h
        cases h2
        obtain ⟨l1, l2⟩ := opt_rel hev lo
        obtain ⟨g1, g2⟩ := opt_rel hev hi
        obtain ⟨m1, m2⟩ := opt_rel hev mx
        obtain ⟨z, hz, hzr⟩ := sliceJ_sound hr (hev x) hu hj l1 l2 g1 g2 m1 m2 h1 hp0
        exact ⟨_, w, μ, by simp [execOp, ho, hz], Step.refl hr, .inl ⟨z, rfl, hzr⟩⟩
      · cases h
    · cases h
  · rename_i args ts ho
    split at h
    · rename_i x t hargs hts
      obtain rfl : args = #[x] := by apply Array.ext'; simpa using hargs
      obtain rfl : ts = #[t] := by apply Array.ext'; simpa using hts
      split at h
      · rename_i e i k off len hs hx
        cases h
        obtain ⟨ti, hi1, hi2⟩ := Option.map_eq_some_iff.1 hs
        have hu := (tiOf_spec hi1).slice hi2
        have hxv := hev x
        rw [hx] at hxv
        obtain ⟨a, c, hxe⟩ := sub_shape hxv
        exact ⟨_, w, μ, by simp [execOp, ho, resolve, invoke, builtin, hxe, run_len_slice hu], Step.refl hr, .inl ⟨_, rfl, avlit rfl⟩⟩
      · cases h
    · cases h
  · rename_i args ts ho
    split at h
    · rename_i x t hargs hts
      obtain rfl : args = #[x] := by apply Array.ext'; simpa using hargs
      obtain rfl : ts = #[t] := by apply Array.ext'; simpa using hts
      split at h
      · rename_i e i k off len hs hx
        split at h
        · rename_i e' k' c rows hi
          cases h
          obtain ⟨ti, hi1, hi2⟩ := Option.map_eq_some_iff.1 hs
          have hu := (tiOf_spec hi1).slice hi2
          have he : P.elem t = e := by simp [Program.elem, hu]
          have hu' : P.underlying t = some (.slice (P.elem t)) := by rw [he]; exact hu
          have hxv := hev x
          rw [hx] at hxv
          have hxe : ∃ a, ρ x = .slice a len (c - off) := by
            obtain ⟨m, hm, hb⟩ := hr.rel _ _ hi
            cases hxv with | one hc => cases hc with | sub _ _ _ hμ hs =>
            rw [hμ] at hm; cases hm
            rcases hb.2.2 with ⟨rfl, rfl, _⟩ | ⟨g, n, cur, rfl, _⟩
            · generalize ρ x = y at hs
              cases hs with | nil h0 => exact ⟨none, by rw [h0]; simp⟩
            · generalize ρ x = y at hs
              cases hs with | «at» h0 => exact ⟨_, rfl⟩
          obtain ⟨a, hxe⟩ := hxe
          exact ⟨_, w, μ, by simp [execOp, ho, resolve, invoke, builtin, hxe, run_cap_slice w t _ _ _ _ hu', goInt], Step.refl hr, .inl ⟨_, rfl, avlit rfl⟩⟩
        · cases h
      · cases h
    · cases h
  · rename_i args ts ho
    split at h
    · rename_i x t hargs hts
      obtain rfl : args = #[x] := by apply Array.ext'; simpa using hargs
      obtain rfl : ts = #[t] := by apply Array.ext'; simpa using hts
      split at h
      · rename_i e i k off len hs hx
        split at h
        · rename_i e' k' c rows j hi hj
          split at h
          · rename_i hk
            obtain ⟨rfl, rfl⟩ := hk
            cases h
            obtain ⟨ti, hi1, hi2⟩ := Option.map_eq_some_iff.1 hs
            exact clear_sound hr hev ho ((tiOf_spec hi1).slice hi2) hj hx hi hp0
          · cases h
        · cases h
      · cases h
    · cases h
  · rename_i args ts ho
    split at h
    · rename_i d x t u hargs hts
      obtain rfl : args = #[d, x] := by apply Array.ext'; simpa using hargs
      obtain rfl : ts = #[t, u] := by apply Array.ext'; simpa using hts
      split at h
      · rename_i e i k off len hs hd
        obtain ⟨ti, hi1, hi2⟩ := Option.map_eq_some_iff.1 hs
        have hu := (tiOf_spec hi1).slice hi2
        split at h
        · rename_i e' k' c rows j hi hj
          split at h
          · rename_i hk
            obtain ⟨rfl, rfl⟩ := hk
            split at h
            · rename_i n av hsrc
              cases h
              obtain ⟨h1, h2, h3, h4⟩ := hp0
              exact (copy_sound hr hev ho hu hj hd hsrc h1 h2).1 _ _ _ hi h3 h4
            · cases h
          · cases h
        · rename_i e' k' rows j hi hj
          split at h
          · rename_i hk
            obtain ⟨rfl, rfl⟩ := hk
            split at h
            · rename_i n av hsrc
              cases h
              obtain ⟨h1, h2, h3⟩ := hp0
              exact (copy_sound hr hev ho hu hj hd hsrc h1 h2).2 _ _ hi h3
            · cases h
          · cases h
        · cases h
      · cases h
    · cases h
  · rename_i args ts ho
    split at h
    · rename_i s x t u hargs hts
      obtain rfl : args = #[s, x] := by apply Array.ext'; simpa using hargs
      obtain rfl : ts = #[t, u] := by apply Array.ext'; simpa using hts
      split at h
      · rename_i e i k off len hs hd
        obtain ⟨ti, hi1, hi2⟩ := Option.map_eq_some_iff.1 hs
        have hu := (tiOf_spec hi1).slice hi2
        split at h
        · rename_i e' k' c rows j hi hj
          split at h
          · rename_i hk
            obtain ⟨rfl, rfl, rfl⟩ := hk
            split at h
            · rename_i kn kq n hsu hx
              cases h
              obtain ⟨tu, hu1, hu2⟩ := Option.map_eq_some_iff.1 hsu
              obtain ⟨h0, h1, h2, h3, h4⟩ := hp0
              exact zeros_sound hr hev ho hu ((tiOf_spec hu1).int hu2) hj hd hx hi h0 h1 h2 h3 h4
            · rename_i e2 i2 k2 off2 len2 hsu hx
              split at h
              · rename_i hk
                obtain ⟨rfl, rfl, rfl⟩ := hk
                cases h
                obtain ⟨rfl, h1, h2, h3⟩ := hp0
                exact shift_sound hr hev ho hu hj hd hx hi h1 h2 h3
              · cases h
            · split at h
              · rename_i htu
                subst htu
                split at h
                · rename_i new hnew
                  cases h
                  obtain ⟨h0, rfl, h1, h2, h3⟩ := hp0
                  exact onto_sound hr hev ho hu hj hd hnew hi h0 h1 h2 h3
                · cases h
              · cases h
            · cases h
          · cases h
        · cases h
      · cases h
    · cases h
  · rename_i fo args ts ho
    split at h
    · rename_i g x y hf hargs
      obtain rfl : args = #[x, y] := by apply Array.ext'; simpa using hargs
      split at h
      · rename_i i j k off len hx hy
        split at h
        · rename_i e k' rows e' k'' c rows' hi hj
          split at h
          · rename_i hk
            obtain ⟨hij, rfl, hti⟩ := hk
            cases h
            obtain ⟨ti, hti⟩ := Option.isSome_iff_exists.1 hti
            obtain ⟨h1, h2, h3⟩ := hp0
            exact overlaps_sound hr hev ho hf hx hy hi hj hij hti h1 h2 h3
          · cases h
        · cases h
      · cases h
    · cases h
  · cases h

theorem arjOpG_sound {o : Oper} {ρ : Operand → Value} {ev : Operand → AV} {p : Prop} {r : AV} (hr : HR w ok μ hp) (hev : ∀ x, AVRel w ok μ (ev x) (ρ x))
    (h : arjOpG P hp ev o.op = some (p, r, hp')) (hp0 : p) : HOut P o ρ w ok μ hp hp' r := by
  unfold arjOpG at h
  split at h
  · exact arjOp_sound hr hev h hp0
  · cases h

/-- A part from the beginning on becomes an array of its own. -/
theorem narrow_step {hp1 : Hp} {v r1 : AV} {x : Value} {p : Prop} (hr : HR w ok μ hp) (hv : AVRel w ok μ v x) (h : narrowR hp v = some (p, hp1, r1)) (hp0 : p) : ∃ μ', Step w ok μ hp w ok μ' hp1 ∧ AVRel w ok μ' r1 x := by
  unfold narrowR at h
  split at h
  · rename_i i k off len
    split at h
    · rename_i e k' c rows hi
      split at h
      · rename_i hk
        subst hk
        cases h
        obtain ⟨rfl, h1⟩ := hp0
        obtain ⟨m, hμ, hk0, hulr, hc⟩ := sub_rel (v := .any) hr hv hi
        have hown : ∃ xs, w.ownsRow 0 e k' x len xs ∧ All2 (VRel w ok) (rows.take len).flatten xs ∧ x.ownBlock = m.ownBlock := by
          rcases hc with ⟨rfl, rfl, rfl, rfl, rfl⟩ | ⟨g, n', cur, oo, rfl, rfl, hoo, hg, hrc, hcm, hcs, hrel⟩
          · exact ⟨[], World.ownsRow_nil w 0 e k', by simpa using All2.nil, rfl⟩
          · have hooe := hoo (.inr rfl)
            subst hooe
            rw [Nat.zero_mul, Nat.sub_zero]
            have ht := hrel.take (len * k')
            rw [← flatten_take len hulr, List.take_take, Nat.min_eq_left (Nat.mul_le_mul_right _ h1)] at ht
            refine ⟨_, ⟨?_, .inr ⟨g, c, cur, rfl, Nat.zero_le _, hg, by omega, hcm, hcs, rfl⟩⟩, ht, rfl⟩
            rw [← ht.length, flat_rows (hulr.take len), List.length_take, Nat.min_eq_left h1]
        obtain ⟨xs, hown, hall, hob⟩ := hown
        have htl : (rows.take len).length = len := by rw [List.length_take]; omega
        have ho1 : x.oneCell' = true := by rcases hown.2 with ⟨rfl, _⟩ | ⟨g, cap, cur, rfl, _⟩ <;> rfl
        refine ⟨μ ++ [.arr x], step_move (w' := w) (m' := .arr x) (blk' := .arr e k' (rows.take len)) hr hi hμ rfl rfl rfl (Nat.le_refl _) (fun _ _ _ => rfl) ⟨xs, by rw [htl]; exact hown, hall, hulr.take len⟩ (fun b hb => .inl (by have hb' : x.ownBlock = some b := hb; show m.ownBlock = some b; rw [← hob]; exact hb')), .one (.ar ?_ ho1)⟩
        rw [← hr.len]; simp
      · cases h
    · cases h
  · cases h

end
end Go.Proofs.AE
