/- The abstract evaluator, part 7: indexes, slices, what is built. -/
import Derived.Test.YtniihihcklpdgaaAeBin3
set_option linter.unusedVariables false
set_option linter.unusedSimpArgs false
namespace Go.Proofs.AE
open Go Go.RowKit

section
variable {P : Program} {n : Nat} {w : World} {ok : Nat → Prop} {μ : List MB} {hp : Hp}

theorem row_vptr {rows : List (List V)} {x : Value} {i : Nat} {row : List V} (h : VRel w ok (.sl rows) x) (hi : rows[i]? = some row) :
    ∃ b off cap, x = .slice (some ⟨b, off, none⟩) rows.length cap ∧ CRel w ok μ (.vptr row) (.pointer (some ⟨b, off + i * row.length, none⟩)) := by
  cases h with
  | nil => simp at hi
  | sl _ b off cap cv hok hcap hmax hc hv =>
    refine ⟨b, off, cap, rfl, .vptr b _ (cv i) (hok ?_) ?_ fun j v hj => hv i row j v hi hj⟩
    · rintro rfl; simp at hi
    · intro j v hj
      rw [Nat.add_assoc]; exact hc i row j v hi hj

theorem lt_of_getElem? {α : Type} {l : List α} {i : Nat} {a : α} (h : l[i]? = some a) : i < l.length := by
  rcases Nat.lt_or_ge i l.length with h' | h'
  · exact h'
  · rw [List.getElem?_eq_none h'] at h; cases h

theorem run_indexAt_slice {t e : TypeId} {j : TI} (hu : P.underlying t = some (.slice e)) (hj : tiOf P e = some j) (ad : Addr) (len cap : Nat) (k : IntKind) (m : Int) (h0 : 0 ≤ m) (h1 : m < len) :
    (Instr.indexAt t (.slice (some ad) len cap) (.int k m)).run P w = .ok (.pointer (some (ad.add (m.toNat * j.size)))) w := by
  have hs := run_sizeOf (tiOf_spec hj) w
  simp [Instr.indexAt, asIntOf, run_underlying hu, h0, h1, hs]

theorem indexAddr_sound {t : TypeId} {i : TI} {v r : AV} {p : Prop} {x y : Value} {m : Int} (hr : HR w ok μ hp) (hi : tiOf P t = some i) (h : indexAddrAV P i hp v m = some (p, r)) (hp' : p)
    (hv : AVRel w ok μ v x) {k : IntKind} (hy : y = .int k m) : ∃ z, (Instr.indexAt t x y).run P w = .ok z w ∧ AVRel w ok μ r z := by
  subst hy
  unfold indexAddrAV at h
  split at h
  · rename_i e he
    have hu := (tiOf_spec hi).slice he
    split at h
    · rename_i j hj
      split at h
      · rename_i b
        split at h
        · rename_i e' k' rows hb
          split at h
          · rename_i hk
            cases h
            obtain ⟨mb, hm, hbr⟩ := hr.rel _ _ hb
            cases hv with | one hc => cases hc with | ar hμ _ =>
            rw [hμ] at hm; cases hm
            obtain ⟨xs, hown, hall, hkk⟩ := hbr
            rcases hown.2 with ⟨rfl, hn⟩ | ⟨g, cap, cur, rfl, _, hg, hnc, hcm, hcs, htake⟩
            · omega
            · refine ⟨_, run_indexAt_slice hu hj _ _ _ k m hp'.1 hp'.2, ?_⟩
              rw [Addr.add_lit, ← hk]
              have := CRel.eptr (w := w) (ok := ok) m.toNat k' 0 hμ
              simpa using AVRel.one this
          · cases h
        · cases h
      · rename_i rows
        split at h
        · rename_i row hrow
          split at h
          · rename_i hrl
            cases h
            cases hv with | one hc => cases hc with | v hc =>
            obtain ⟨b, off, cap, rfl, hc'⟩ := row_vptr (μ := μ) hc hrow
            have hlt : m < rows.length := by have := lt_of_getElem? hrow; omega
            refine ⟨_, run_indexAt_slice hu hj _ _ _ k m hp' hlt, ?_⟩
            rw [Addr.add_lit, ← hrl]; exact .one hc'
          · cases h
        · cases h
      · rename_i rows
        split at h
        · rename_i row hrow
          split at h
          · rename_i hrl
            cases h
            cases hv with | one hc => cases hc with | full hc =>
            obtain ⟨b, off, cap, he', hc'⟩ := row_vptr (μ := μ) hc hrow
            cases he'
            have hlt : m < rows.length := by have := lt_of_getElem? hrow; omega
            refine ⟨_, run_indexAt_slice hu hj _ _ _ k m hp' hlt, ?_⟩
            rw [Addr.add_lit, ← hrl]; exact .one hc'
          · cases h
        · cases h
      · cases h
    · cases h
  · rename_i q e he
    have hu := (tiOf_spec hi).array he
    split at h
    · rename_i j hj
      have hs := run_sizeOf (tiOf_spec hj) w
      have run : ∀ ad : Addr, 0 ≤ m → m < q → (Instr.indexAt t (.pointer (some ad)) (.int k m)).run P w = .ok (.pointer (some (ad.add (m.toNat * j.size)))) w := by
        intro ad h0 h1
        simp [Instr.indexAt, asIntOf, run_underlying hu, Instr.sureAddr, h0, h1, hs]
      split at h
      · cases h
        cases hv with | one hc => cases hc with | ptr _ hμ =>
        refine ⟨_, run _ hp'.1 hp'.2, ?_⟩
        rw [Addr.add_lit]; exact .one (.ptr _ hμ)
      · cases h
        cases hv with | one hc => cases hc with | vptr b off cv hok hcell hrel =>
        refine ⟨_, run _ hp'.1 hp'.2, ?_⟩
        rw [Addr.add_lit]
        refine .one (.vptr b _ (fun z => cv (m.toNat * j.size + z)) hok ?_ ?_)
        · intro z v hz
          rw [List.getElem?_drop] at hz
          have := hcell _ v hz
          rwa [← Nat.add_assoc] at this
        · intro z v hz
          rw [List.getElem?_drop] at hz
          exact hrel _ v hz
      · cases h
    · cases h
  · cases h

theorem index_sound {t : TypeId} {i : TI} {v r : AV} {p : Prop} {x y : Value} {m : Int} (hi : tiOf P t = some i) (h : indexAV P i v m = some (p, r)) (hp' : p)
    (hv : AVRel w ok μ v x) {k : IntKind} (hy : y = .int k m) : ∃ z, (Instr.index t x y).run P w = .ok z w ∧ AVRel w ok μ r z := by
  subst hy
  unfold indexAV at h
  split at h
  · rename_i s hs
    cases h
    obtain rfl := lit_rel hv
    have hu := (tiOf_spec hi).string hs
    obtain ⟨h0, h1⟩ := hp'
    have hlt : m.toNat < s.size := by omega
    refine ⟨_, ?_, avlit rfl⟩
    have hx : s[m.toNat]? = some (s[m.toNat]'hlt) := by simp [hlt]
    simp only [Instr.index, asIntOf, Sem.run_bind, Sem.run_pure, Result.andThen_ok, run_underlying hu, h0, if_true, hx]
    congr 2
    unfold byteAt
    rw [List.getD_eq_getElem?_getD]
    have : s.data.toList[m.toNat]? = some (s[m.toNat]'hlt) := by
      rw [List.getElem?_eq_getElem (by simpa using hlt)]; rfl
    rw [this]; rfl
  · rename_i q e cs hs
    have hu := (tiOf_spec hi).array hs
    split at h
    · rename_i j hj
      obtain ⟨r', hr', he⟩ := Option.map_eq_some_iff.1 h
      cases he
      obtain ⟨h0, h1⟩ := hp'
      have hj2 := tiOf_spec hj
      cases hv with
      | agg hall =>
        rename_i xs
        have hall2 := (hall.drop (m.toNat * j.size)).take j.size
        obtain ⟨g1, g2, g3⟩ := mkAV_rel hr' hall2
        simp only [Instr.index, asIntOf, Sem.run_bind, Sem.run_pure, Result.andThen_ok, run_underlying hu, h0, h1, true_and, if_true, run_sizeOf hj2]
        simp only [part, Sem.run_bind, hj2.und_agg, Result.andThen_ok]
        by_cases hg : j.isAgg = true
        · refine ⟨_, ?_, g1 hg⟩
          simp only [hg, if_true, Sem.run_bind, run_sizeOf hj2, Result.andThen_ok, Sem.run_pure]
          congr 2
          apply Array.ext'
          simp [List.take_drop]
        · have hg' : j.isAgg = false := by simpa using hg
          obtain ⟨y, hy, hyr⟩ := g2 hg'
          refine ⟨y, ?_, hyr⟩
          simp only [hg', Bool.false_eq_true, if_false]
          have hone : j.size = 1 := by rw [← g3, hy]; rfl
          have : xs[m.toNat * j.size]? = some y := by
            have hz : (((xs.toList.drop (m.toNat * j.size)).take j.size))[0]? = some y := by rw [hy]; rfl
            rw [List.getElem?_take, if_pos (by omega), List.getElem?_drop] at hz
            simpa using hz
          rw [this]; rfl
    · cases h
  · cases h

/-! ### slices -/
theorem bound_cases {d : Int} {ov : Option AV} {ox : Option Value} {l : Int} (h : boundAV d ov = some l) (hv : ∀ v, ov = some v → ∃ x, ox = some x ∧ AVRel w ok μ v x) (hn : ov = none → ox = none) :
    (ox = none ∧ l = d) ∨ ∃ k, ox = some (.int k l) := by
  cases ov with
  | none => simp [boundAV] at h; exact .inl ⟨hn rfl, h.symm⟩
  | some v =>
    obtain ⟨x, hx, hr⟩ := hv v rfl
    obtain ⟨k, rfl⟩ := intOfAV_rel (by simpa [boundAV] using h) hr
    exact .inr ⟨k, hx⟩

theorem sliced_rel {rows : List (List V)} {a : Option Addr} {cap l h m k : Nat} (hr : VRel w ok (.sl rows) (.slice a rows.length cap)) (hk : UL k rows) (h1 : l ≤ h) (h2 : h ≤ rows.length) (h3 : h ≤ m) (h4 : m ≤ cap) :
    VRel w ok (.sl ((rows.take h).drop l)) (sliced a l h m k) := by
  have hlen : ((rows.take h).drop l).length = h - l := by simp; omega
  generalize hx : Value.slice a rows.length cap = x at hr
  cases hr with
  | nil =>
    cases hx
    have : h = 0 := by simpa using h2
    subst this
    have : l = 0 := by omega
    subst this
    have : m = 0 := by omega
    subst this
    simpa [sliced] using VRel.nil
  | sl _ b off cap' cv hok hcap hmax hc hv =>
    cases hx
    have key : ∀ off' : Nat, ((h - l) ≠ 0 → off' = off + l * k) → VRel w ok (.sl ((rows.take h).drop l)) (.slice (some ⟨b, off', none⟩) (h - l) (m - l)) := by
      intro off' hoff
      have := VRel.sl (w := w) (ok := ok) ((rows.take h).drop l) b off' (m - l) (fun i j => cv (l + i) j) ?_ (by rw [hlen]; omega) (by unfold maxLen at *; omega) ?_ ?_
      · rwa [hlen] at this
      · intro hne; apply hok; rintro rfl; simp at hne
      · intro i row j v hi hj
        rw [List.getElem?_drop, List.getElem?_take] at hi
        split at hi
        · rename_i hlt
          have hrl := hk row (List.mem_of_getElem? hi)
          have := hc (l + i) row j v hi hj
          rw [hoff (by omega)]
          rw [hrl] at this ⊢
          rw [Nat.add_mul, Nat.add_assoc] at this
          rw [Nat.add_assoc off]; simpa [Nat.add_assoc] using this
        · cases hi
      · intro i row j v hi hj
        rw [List.getElem?_drop, List.getElem?_take] at hi
        split at hi
        · exact hv (l + i) row j v hi hj
        · cases hi
    unfold sliced
    split
    · rename_i hml
      exact key off (fun hne => by omega)
    · simp only [Option.map_some, Addr.add_lit]
      exact key _ fun _ => rfl

theorem run_sliceBound' (k : IntKind) (i : Int) (y : Nat) (code : BoundsCode) (h0 : 0 ≤ i) (h1 : i ≤ y) : (Instr.sliceBound (.int k i) y code).run P w = .ok i.toNat w := run_sliceBound (P := P) w k i y code h0 h1

theorem slice_rows_sound {t e : TypeId} {j : TI} {rows : List (List V)} {a : Option Addr} {cap : Nat} {lo hi mx : Option AV} {p : Prop} {r : AV} {xl xh xm : Option Value}
    (hu : P.underlying t = some (.slice e)) (hj : tiOf P e = some j) (hr : VRel w ok (.sl rows) (.slice a rows.length cap)) (h : sliceRows j.size rows lo hi mx = some (p, r)) (hp' : p)
    (vl : ∀ v, lo = some v → ∃ x, xl = some x ∧ AVRel w ok μ v x) (nl : lo = none → xl = none)
    (vh : ∀ v, hi = some v → ∃ x, xh = some x ∧ AVRel w ok μ v x) (nh : hi = none → xh = none)
    (vm : ∀ v, mx = some v → ∃ x, xm = some x ∧ AVRel w ok μ v x) (nm : mx = none → xm = none) :
    ∃ z, (Instr.sliceAt t (.slice a rows.length cap) xl xh xm).run P w = .ok z w ∧ AVRel w ok μ r z := by
  have hcap : rows.length ≤ cap := by
    generalize hx : Value.slice a rows.length cap = x at hr
    cases hr <;> cases hx
    · exact Nat.le_refl _
    · assumption
  have hs := run_sizeOf (tiOf_spec hj) w
  have he : P.elem t = e := by simp [Program.elem, hu]
  have hu' : P.underlying t = some (.slice (P.elem t)) := by rw [he]; exact hu
  rw [run_sliceAt_slice w t _ _ _ _ hu']
  have main : ∀ l h m : Nat, (Instr.sliceBounds true rows.length cap xl xh xm).run P w = .ok (l, h, m) w → (Instr.slice t (.slice a rows.length cap) xl xh xm).run P w = .ok (sliced a l h m j.size) w := by
    intro l h m hb
    rw [run_slice_any w t a rows.length cap hu', hb, he]
    simp [hs]
  unfold sliceRows at h
  split at h
  · rename_i l hh hl hhh
    have bl : ∀ (K : Nat → Sem (Nat × Nat × Nat)) code, ∀ y : Nat, l ≤ y → 0 ≤ l → (match xl with | some v => (do let q ← Instr.sliceBound v y code; K q) | none => (do let q ← Pure.pure 0; K q) : Sem (Nat × Nat × Nat)).run P w = (K l.toNat).run P w := by
      intro K code y h1 h0
      rcases bound_cases hl vl nl with ⟨rfl, rfl⟩ | ⟨kl, rfl⟩
      · rfl
      · simp only [Sem.run_bind, run_sliceBound' (P := P) (w := w) kl l y code h0 h1, Result.andThen_ok]
    have bh := bound_cases hhh vh nh
    split at h
    · cases h
      obtain rfl := nm rfl
      obtain ⟨hul, h0, h1, h2⟩ := hp'
      refine ⟨_, main _ _ cap ?_, .one (.v (sliced_rel hr hul (l := l.toNat) (h := hh.toNat) (by omega) (by omega) (by omega) (Nat.le_refl _)))⟩
      rcases bh with ⟨rfl, rfl⟩ | ⟨kh, rfl⟩
      · simp only [Instr.sliceBounds, Sem.run_bind, Sem.run_pure, Result.andThen_ok, Option.isSome_none, Bool.false_eq_true, if_false, Int.toNat_natCast]
        exact bl _ .sliceB rows.length h1 h0
      · simp only [Instr.sliceBounds, Sem.run_bind, Sem.run_pure, Result.andThen_ok, Option.isSome_none, Bool.false_eq_true, if_false, if_true, run_sliceBound' (P := P) (w := w) kh hh cap .sliceAcap (by omega) (by omega)]
        exact bl _ .sliceB hh.toNat (by omega) h0
    · rename_i m
      split at h
      · rename_i mm hv' hm1
        cases h
        obtain ⟨xm', rfl, hmr⟩ := vm _ rfl
        obtain ⟨km, rfl⟩ := intOfAV_rel hm1 hmr
        obtain ⟨hul, h0, h1, rfl, h2⟩ := hp'
        have hfull : ((rows.take hh.toNat).drop l.toNat).length = hh.toNat - l.toNat := by simp; omega
        have hrel := sliced_rel (m := hh.toNat) hr hul (l := l.toNat) (h := hh.toNat) (by omega) (by omega) (Nat.le_refl _) (by omega)
        have hfin : CRel w ok μ (.full ((rows.take hh.toNat).drop l.toNat)) (sliced a l.toNat hh.toNat hh.toNat j.size) := by
          unfold sliced at hrel ⊢
          have := @CRel.full w ok μ ((rows.take hh.toNat).drop l.toNat) _ (by rw [hfull]; exact hrel)
          rwa [hfull] at this
        refine ⟨_, main _ _ _ ?_, .one hfin⟩
        rcases bh with ⟨rfl, _⟩ | ⟨kh, rfl⟩
        · obtain ⟨_, hx, _⟩ := vh _ rfl; cases hx
        · simp only [Instr.sliceBounds, Sem.run_bind, Result.andThen_ok, Option.isSome_some, if_true, run_sliceBound' (P := P) (w := w) km hh cap .slice3Acap (by omega) (by omega), run_sliceBound' (P := P) (w := w) kh hh hh.toNat .slice3B (by omega) (by omega)]
          exact bl _ .slice3C hh.toNat (by omega) h0
      · cases h
  · cases h

end
end Go.Proofs.AE
