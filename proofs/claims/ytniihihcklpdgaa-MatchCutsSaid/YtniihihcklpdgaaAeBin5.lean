/- The abstract evaluator, part 8: built values; all operations that leave memory alone. -/
import Derived.Test.YtniihihcklpdgaaAeBin4
set_option linter.unusedVariables false
set_option linter.unusedSimpArgs false
namespace Go.Proofs.AE
open Go Go.RowKit

section
variable {P : Program} {n : Nat} {w : World} {ok : Nat → Prop} {μ : List MB} {hp : Hp}

theorem zV_rel {x : Value} {v : V} (h : zV x = some v) : VRel w ok v x := by
  unfold zV at h
  split at h <;> cases h <;> first | exact .nil | exact .lit _ rfl

theorem zVs_rel : ∀ {xs : List Value} {vs : List V}, zVs xs = some vs → All2 (VRel w ok) vs xs
  | [], vs, h => by cases h; exact .nil
  | x :: xs, vs, h => by
    unfold zVs at h
    split at h
    · rename_i a b ha hb; cases h; exact .cons (zV_rel ha) (zVs_rel hb)
    · cases h

theorem zC_rel {x : Value} {v : V} (h : zV x = some v) : CRel w ok μ (vC v) x := by
  unfold zV at h
  split at h <;> cases h <;> first | exact .nil | exact .v (.lit _ rfl)

theorem zeroC_rel : ∀ {xs : List Value} {vs : List V}, zVs xs = some vs → All2 (CRel w ok μ) (vs.map vC) xs
  | [], vs, h => by cases h; exact .nil
  | x :: xs, vs, h => by
    unfold zVs at h
    split at h
    · rename_i a b ha hb; cases h; exact .cons (zC_rel ha) (zeroC_rel hb)
    · cases h

theorem cellsAV_rel {v : AV} {cs : List C} {x : Value} (h : cellsAV v = some cs) (hv : AVRel w ok μ v x) : All2 (CRel w ok μ) cs x.cells.toList := by
  unfold cellsAV at h
  split at h
  · cases h; cases hv with | one hc => 
    have : x.cells = #[x] := by have := hc.oneCell; cases x <;> simp_all [Value.cells, Value.oneCell']
    rw [this]; exact .cons hc .nil
  · cases h; cases hv with | agg hall => exact hall
  · cases h

theorem foldl_set (xs : List Value) : ∀ (off k : Nat) (cs : Array Value), off + k + xs.length ≤ cs.size →
    ((xs.zipIdx k).foldl (fun cs (c, j) => cs.setIfInBounds (off + j) c) cs).toList = cs.toList.take (off + k) ++ xs ++ cs.toList.drop (off + k + xs.length) := by
  induction xs with
  | nil => intro off k cs _; simp
  | cons x xs ih =>
    intro off k cs h
    simp only [List.zipIdx_cons, List.foldl_cons, List.length_cons] at h ⊢
    rw [show off + k + (xs.length + 1) = off + (k + 1) + xs.length by omega] at *
    rw [ih off (k + 1) _ (by simpa using h)]
    have hlt : off + k < cs.toList.length := by simp; omega
    simp only [Array.toList_setIfInBounds]
    apply List.ext_getElem?
    intro i
    simp only [List.append_assoc, List.getElem?_append, List.length_take, List.length_set, List.getElem?_take, List.getElem?_set, List.getElem?_drop, List.length_cons, List.getElem?_cons, Array.length_toList]
    have hsz : off + (k + 1) ≤ cs.size := by omega
    rw [Nat.min_eq_left hsz, Nat.min_eq_left (by omega : off + k ≤ cs.size)]
    by_cases h1 : i < off + k
    · rw [if_pos (by omega), if_pos (by omega), if_neg (by omega), if_pos h1, if_pos h1]
    · by_cases h2 : i = off + k
      · subst h2
        rw [if_pos (by omega), if_pos (by omega), if_pos rfl, if_pos (by omega), if_neg (by omega), if_pos (by omega), if_pos (by omega)]
      · rw [if_neg (by omega), if_neg h1]
        by_cases h3 : i - (off + (k + 1)) < xs.length
        · rw [if_pos h3, if_pos (by omega), if_neg (by omega), show i - (off + k) - 1 = i - (off + (k + 1)) by omega]
        · rw [if_neg h3, if_neg (by omega)]
          rw [if_neg (by omega)]
          congr 1; omega

theorem fill_sound {i : TI} {pl : Nat → Option (Nat × Nat)} {place : Nat → Option (Nat × Nat)} (hpl : ∀ f q, place f = some q → pl f = some q) :
    ∀ (parts : List (Nat × AV)) (vals : List (Nat × Value)) (cs cs' : List C) (xs : Array Value), All2 (fun (a : Nat × AV) (b : Nat × Value) => a.1 = b.1 ∧ AVRel w ok μ a.2 b.2) parts vals →
      buildAV i place cs parts = some cs' → All2 (CRel w ok μ) cs xs.toList → ∃ xs', Instr.fill pl xs vals = some xs' ∧ All2 (CRel w ok μ) cs' xs'.toList
  | [], _, cs, cs', xs, h, hb, hx => by
    cases h; simp [buildAV] at hb; subst hb; exact ⟨xs, rfl, hx⟩
  | (f, v) :: parts, _, cs, cs', xs, h, hb, hx => by
    cases h with
    | @cons _ b _ vals h t =>
    obtain ⟨f', x⟩ := b
    obtain ⟨rfl, hv⟩ := h
    unfold buildAV at hb
    split at hb
    · rename_i o k ys hpf hys
      split at hb
      · rename_i hc
        obtain ⟨hk, hle⟩ := hc
        have hcell := cellsAV_rel hys hv
        have hlen : x.cells.size = k := by have := hcell.length; simp at this; omega
        have hsz : cs.length = xs.size := by simpa using hx.length
        have hfold := foldl_set x.cells.toList o 0 xs (by simp [hlen]; omega)
        have hfold' : (x.cells.zipIdx.foldl (fun cs (c, j) => cs.setIfInBounds (o + j) c) xs).toList = xs.toList.take o ++ x.cells.toList ++ xs.toList.drop (o + k) := by
          rw [← Array.foldl_toList, Array.toList_zipIdx, hfold]
          simp [hlen]
        have hx' : All2 (CRel w ok μ) (cs.take o ++ ys ++ cs.drop (o + k)) (x.cells.zipIdx.foldl (fun cs (c, j) => cs.setIfInBounds (o + j) c) xs).toList := by
          rw [hfold']; exact ((hx.take o).append hcell).append (hx.drop _)
        obtain ⟨xs', h1, h2⟩ := fill_sound hpl parts vals _ cs' _ t hb hx'
        refine ⟨xs', ?_, h2⟩
        simp only [Instr.fill, hpl _ _ hpf]
        rw [if_neg (by simp [hlen]; omega)]
        exact h1
      · cases hb
    · cases hb

theorem build_sound {t : TypeId} {i : TI} {parts : List (Nat × AV)} {vals : Array (Nat × Value)} {cs' : List C} (hi : tiOf P t = some i)
    (h : buildAV i (placesOf P i) (i.zero.map vC) parts = some cs') (hg : elemOk P i = true) (hv : All2 (fun (a : Nat × AV) (b : Nat × Value) => a.1 = b.1 ∧ AVRel w ok μ a.2 b.2) parts vals.toList) :
    ∃ y, (Instr.build t vals).run P w = .ok y w ∧ AVRel w ok μ (.agg cs') y := by
  have hti := tiOf_spec hi
  obtain ⟨it, hit, hsz, _, z, hz, hzs, hzl⟩ := hti.info
  have hz0 : All2 (CRel w ok μ) (i.zero.map vC) z.cells.toList := zeroC_rel hzs
  unfold elemOk at hg
  split at hg
  case h_2 fs hfs =>
    obtain ⟨as, hu, hmap, hfz⟩ := hti.struct hfs
    have hm : ∃ places, as.toList.mapM (fun f => (P.info? f.type).map fun i => (f.offset, i.size)) = some places ∧ ∀ (k : Nat) q, placesOf P i k = some q → places[k]? = some q := by
      have key : ∀ (l : List Field), (∀ f ∈ l, ∃ j, P.info? f.type = some j ∧ j.size ≠ 0) → ∃ places, l.mapM (fun f => (P.info? f.type).map fun i => (f.offset, i.size)) = some places ∧
          ∀ (k : Nat) f, l[k]? = some f → ∀ j, P.info? f.type = some j → places[k]? = some (f.offset, j.size) := by
        intro l
        induction l with
        | nil => intro _; exact ⟨[], rfl, fun k f hf => by simp at hf⟩
        | cons f l ih =>
          intro hl
          obtain ⟨places, h1, h2⟩ := ih fun g hg => hl g (List.mem_cons_of_mem _ hg)
          obtain ⟨j, hj, _⟩ := hl f (List.mem_cons_self ..)
          refine ⟨(f.offset, j.size) :: places, by simp [List.mapM_cons, hj, h1], ?_⟩
          intro k g hg j' hj'
          cases k with
          | zero => simp at hg; subst hg; rw [hj] at hj'; cases hj'; rfl
          | succ k => simpa using h2 k g (by simpa using hg) j' hj'
      obtain ⟨places, h1, h2⟩ := key as.toList hfz
      refine ⟨places, h1, fun k q hq => ?_⟩
      unfold placesOf at hq
      rw [hfs] at hq
      simp only at hq
      split at hq
      · rename_i ft o hf
        split at hq
        · rename_i j hj
          cases hq
          rw [hmap, List.getElem?_map] at hf
          obtain ⟨fd, hfd, he⟩ := Option.map_eq_some_iff.1 hf
          cases he
          obtain ⟨j', hj', hs'⟩ := (tiOf_spec hj).size
          rw [← hs']; exact h2 k fd hfd j' hj'
        · cases hq
      · cases hq
    obtain ⟨places, hp1, hp2⟩ := hm
    obtain ⟨xs', h1, h2⟩ := fill_sound (pl := (places.toArray[·]?)) (fun f q hq => by simpa using hp2 f q hq) parts vals.toList _ cs' z.cells hv h hz0
    refine ⟨_, run_build w t vals xs' ?_, .agg h2⟩
    simp only [Program.built, hit, hu, hz, hp1, h1]
  case h_1 q e hfs =>
    have hu := hti.array hfs
    obtain ⟨jj, hjj⟩ := Option.isSome_iff_exists.1 hg
    obtain ⟨j, hj1, hs'⟩ := (tiOf_spec hjj).size
    have hj2 : ∀ f q, placesOf P i f = some q → q = (f * j.size, j.size) := by
      intro f q hq
      unfold placesOf at hq; rw [hfs] at hq; simp only [hjj] at hq
      cases hq; rw [hs']
    obtain ⟨xs', h1, h2⟩ := fill_sound (pl := fun i => some (i * j.size, j.size)) (fun f q hq => by rw [hj2 f q hq]) parts vals.toList _ cs' z.cells hv h hz0
    refine ⟨_, run_build w t vals xs' ?_, .agg h2⟩
    simp only [Program.built, hit, hu, hz, hj1, h1]
  case h_3 => cases hg

theorem run_len_slice {t : TypeId} {e : TypeId} (hu : P.underlying t = some (.slice e)) (a : Option Addr) (l c ty : Nat) : (Builtin.len_ #[t] ty #[.slice a l c]).run P w = .ok (.int .i64 l) w := by
  simp [Builtin.len_, run_underlying hu, goInt]
theorem run_len_string {t : TypeId} (hu : P.underlying t = some .string) (s : ByteArray) (ty : Nat) : (Builtin.len_ #[t] ty #[.string s]).run P w = .ok (.int .i64 s.size) w := by
  simp [Builtin.len_, run_underlying hu, goInt]
theorem run_len_array {t e q : TypeId} (hu : P.underlying t = some (.array q e)) (x : Value) (ty : Nat) : (Builtin.len_ #[t] ty #[x]).run P w = .ok (.int .i64 q) w := by
  cases x <;> simp [Builtin.len_, run_underlying hu, goInt]

theorem avCs_rel {ρ : Operand → Value} {ev : Operand → AV} (hev : ∀ x, AVRel w ok μ (ev x) (ρ x)) : ∀ {l : List Operand} {cs : List C}, avCs (l.map ev) = some cs → All2 (CRel w ok μ) cs (l.map ρ)
  | [], cs, h => by cases h; exact .nil
  | x :: l, cs, h => by
    simp only [List.map_cons] at h
    unfold avCs at h
    split at h
    · rename_i c cs' hc hcs
      cases h
      refine .cons ?_ (avCs_rel hev hcs)
      have hx := hev x
      unfold avC at hc
      split at hc
      · rename_i c' he; cases hc; rw [he] at hx; cases hx; assumption
      · cases hc
    · cases h

theorem minmax_rel {isMax : Bool} {l : List AV} {xs : List Value} {r : AV} (h : minmaxI isMax l = some r) (hl : AVRels w ok μ l xs) :
    ∃ k k' a b, xs = [.int k a, .int k' b] ∧ r = .one (.v (.lit (.int k (if isMax then (if a < b then b else a) else (if b < a then b else a))))) := by
  unfold minmaxI at h
  split at h
  · cases h
    cases hl with | cons h1 hl =>
    cases hl with | cons h2 hl =>
    cases hl
    obtain rfl := lit_rel h1
    obtain rfl := lit_rel h2
    exact ⟨_, _, _, _, rfl, rfl⟩
  · cases h

theorem avrels_map {ρ : Operand → Value} {ev : Operand → AV} (hev : ∀ x, AVRel w ok μ (ev x) (ρ x)) : ∀ (l : List Operand), AVRels w ok μ (l.map ev) (l.map ρ)
  | [] => .nil
  | x :: l => .cons (hev x) (avrels_map hev l)

theorem agg_rel {cs : List C} {x : Value} (h : AVRel w ok μ (.agg cs) x) : ∃ xs, x = .agg xs ∧ All2 (CRel w ok μ) cs xs.toList := by
  cases h with | agg h => exact ⟨_, rfl, h⟩

theorem avrels_get : ∀ {l : List AV} {xs : List Value}, AVRels w ok μ l xs → ∀ {i : Nat} {v : AV}, l[i]? = some v → ∃ x, xs[i]? = some x ∧ AVRel w ok μ v x
  | _, _, .nil, i, v, h => by simp at h
  | _, _, .cons h t, 0, v, hv => by simp at hv; subst hv; exact ⟨_, rfl, h⟩
  | _, _, .cons h t, i + 1, v, hv => by simpa using avrels_get t (by simpa using hv)

theorem opt_rel {ρ : Operand → Value} {ev : Operand → AV} (hev : ∀ x, AVRel w ok μ (ev x) (ρ x)) (o : Option Operand) :
    (∀ v, o.map ev = some v → ∃ x, o.map ρ = some x ∧ AVRel w ok μ v x) ∧ (o.map ev = none → o.map ρ = none) := by
  cases o with
  | none => exact ⟨fun v h => by simp at h, fun _ => rfl⟩
  | some x => exact ⟨fun v h => by simp at h; subst h; exact ⟨_, rfl, hev x⟩, fun h => by simp at h⟩

theorem parts_rel {ρ : Operand → Value} {ev : Operand → AV} (hev : ∀ x, AVRel w ok μ (ev x) (ρ x)) : ∀ (l : List (Nat × Operand)),
    All2 (fun (a : Nat × AV) (b : Nat × Value) => a.1 = b.1 ∧ AVRel w ok μ a.2 b.2) (l.map fun (k, x) => (k, ev x)) (l.map fun (k, x) => (k, ρ x))
  | [] => .nil
  | (k, x) :: l => .cons ⟨rfl, hev x⟩ (parts_rel hev l)

/-- Every operation that leaves memory alone. -/
theorem pureOp_sound {o : Oper} {ρ : Operand → Value} {ev : Operand → AV} {p : Prop} {r : AV} (hr : HR w ok μ hp) (hev : ∀ x, AVRel w ok μ (ev x) (ρ x))
    (h : pureOp P hp ev o.op = some (p, r)) (hp' : p) : ∃ x, (execOp ρ o).run P w = .ok (.value x) w ∧ AVRel w ok μ r x := by
  unfold pureOp at h
  split at h
  · rename_i x he; cases h; exact ⟨_, by simp [execOp, he], hev x⟩
  · rename_i x he; cases h; exact ⟨_, by simp [execOp, he], hev x⟩
  · rename_i t a he
    split at h
    · rename_i i hi
      obtain ⟨v, hv, e⟩ := Option.map_eq_some_iff.1 h
      cases e
      obtain ⟨y, h1, h2⟩ := load_sound (s := ⟨[], fun _ => .any, hp⟩) hr hi hv (hev a)
      exact ⟨y, by simp [execOp, he, h1], h2⟩
    · cases h
  · rename_i op t x y yt he
    have hx := hev x
    have hy := hev y
    unfold binAV at h
    split at h
    · rename_i va vb hxe hye
      rw [hxe] at hx; rw [hye] at hy
      obtain ⟨⟨p', v⟩, hv, e⟩ := Option.map_eq_some_iff.1 h
      cases e
      obtain hx' := lit_rel hx
      obtain hy' := lit_rel hy
      obtain ⟨h1, h2⟩ := run_binV (w := w) hv hp' x y
      refine ⟨v, ?_, avlit h2⟩
      simp only [execOp, he, hx', hy']
      simp only [Sem.run_bind] at h1 ⊢
      rw [h1]; rfl
    · rename_i xs ys hxe hye
      rw [hxe] at hx; rw [hye] at hy
      split at h
      · rename_i i hi
        split at h
        · cases h
        · rename_i hne
          obtain ⟨xv, hxr, hall⟩ := agg_rel hx
          obtain ⟨yv, hyr, hall2⟩ := agg_rel hy
          have hflat := (tiOf_spec hi).flat
          have hn : i.flat ≠ [] := by simpa using hne
          unfold flatOf at hflat
          split at hflat
          · exact (hn hflat).elim
          · rename_i hguard
            split at hflat
            · rename_i fs hu
              cases hfb : flatB P 12 t with
              | none => rw [hfb] at hflat; exact (hn hflat).elim
              | some l =>
                rw [hfb] at hflat
                simp only [Option.getD_some] at hflat
                have hagg : aggB P t = true := by simp [aggB, hu]
                have hg : ∀ b : BinOp, (eqGuard b t x y (.agg xv) (.agg yv)).run P w = .ok () w := fun b => run_eqGuard_agg w b t x y xv yv (by simpa using hguard)
                have fin : ∀ b : Bool, eqCells i.flat xs ys = some b → (Op.equalIn 10000 t (.agg xv) (.agg yv)).run P w = .ok b w := by
                  intro b hb
                  obtain ⟨rfl, hf⟩ := eqCells_rel hb hall hall2
                  rw [hflat] at hf
                  have := run_flat 12 t l 9988 hfb xv.toList yv.toList w hf
                  simpa [mkT, hagg] using this
                split at h
                · rename_i b hb
                  cases h
                  refine ⟨.bool b, ?_, avlit rfl⟩
                  simp only [execOp, he, hxr, hyr, Sem.run_bind, hg, Result.andThen_ok, run_eql_struct, fin b hb, Sem.run_pure]
                · rename_i b hb
                  cases h
                  refine ⟨.bool (!b), ?_, avlit rfl⟩
                  simp only [execOp, he, hxr, hyr, Sem.run_bind, hg, Result.andThen_ok, run_neq_struct, fin b hb, Sem.run_pure]
                · cases h
            · exact (hn hflat).elim
      · cases h
    · cases h
  · rename_i op t x he
    have hx := hev x
    obtain ⟨v, hv, e⟩ := Option.map_eq_some_iff.1 h
    cases e
    unfold unAV at hv
    split at hv
    · rename_i k m hxe
      rw [hxe] at hx
      have hx' := lit_rel hx
      cases op <;> simp at hv <;> subst hv
      exact ⟨_, by simp [execOp, he, hx', Op.unary, Op.intArith], avlit rfl⟩
    · rename_i b hxe
      rw [hxe] at hx
      have hx' := lit_rel hx
      cases op <;> simp at hv <;> subst hv
      exact ⟨_, by simp [execOp, he, hx', Op.unary], avlit rfl⟩
    · cases hv
  · rename_i src dst x he
    obtain ⟨v, hv, e⟩ := Option.map_eq_some_iff.1 h
    cases e
    obtain ⟨y, h1, h2⟩ := conv_sound hr hv (hev x)
    exact ⟨y, by simp [execOp, he, h1], h2⟩
  · rename_i t x lo hi mx he
    split at h
    · rename_i i hi'
      have hx := hev x
      obtain ⟨l1, l2⟩ := opt_rel hev lo
      obtain ⟨h1, h2⟩ := opt_rel hev hi
      obtain ⟨m1, m2⟩ := opt_rel hev mx
      unfold sliceAV at h
      split at h
      · rename_i hs
        have hu := (tiOf_spec hi').string hs
        split at h
        · rename_i s hxe hmx
          rw [hxe] at hx
          have hx' := lit_rel hx
          have hmx' := m2 hmx
          split at h
          · rename_i l hh hl hhh
            cases h
            obtain ⟨q0, q1, q2⟩ := hp'
            refine ⟨.string (s.extract l.toNat hh.toNat), ?_, avlit rfl⟩
            simp only [execOp, he, hx', hmx', run_sliceAt_string w t _ _ _ _ hu, Sem.run_bind]
            rcases bound_cases hl l1 l2 with ⟨hlo, rfl⟩ | ⟨kl, hlo⟩ <;> rcases bound_cases hhh h1 h2 with ⟨hhi, rfl⟩ | ⟨kh, hhi⟩
            · simp [Instr.slice, run_underlying hu, hlo, hhi, Instr.sliceBounds]
            · simp [Instr.slice, run_underlying hu, hlo, hhi, Instr.sliceBounds, run_sliceBound' (P := P) (w := w) kh hh s.size .sliceAlen (by omega) q2]
            · simp [Instr.slice, run_underlying hu, hlo, hhi, Instr.sliceBounds, run_sliceBound' (P := P) (w := w) kl l s.size .sliceB q0 (by omega)]
            · simp [Instr.slice, run_underlying hu, hlo, hhi, Instr.sliceBounds, run_sliceBound' (P := P) (w := w) kh hh s.size .sliceAlen (by omega) q2, run_sliceBound' (P := P) (w := w) kl l hh.toNat .sliceB q0 (by omega)]
          · cases h
        · cases h
      · rename_i e hs
        have hu := (tiOf_spec hi').slice hs
        split at h
        · rename_i j hj
          split at h
          · rename_i rows hxe
            rw [hxe] at hx
            cases hxv : ρ x with
            | slice a len cap =>
              rw [hxv] at hx
              cases hx with | one hc => cases hc with | v hc =>
              have hlen : len = rows.length := by cases hc <;> rfl
              subst hlen
              obtain ⟨z, hz1, hz2⟩ := slice_rows_sound hu hj hc h hp' l1 l2 h1 h2 m1 m2
              exact ⟨z, by simp [execOp, he, hxv, hz1], hz2⟩
            | _ => rw [hxv] at hx; cases hx with | one hc => cases hc with | v hc => cases hc
          · rename_i rows hxe
            rw [hxe] at hx
            cases hxv : ρ x with
            | slice a len cap =>
              rw [hxv] at hx
              cases hx with | one hc => cases hc with | full hc =>
              obtain ⟨z, hz1, hz2⟩ := slice_rows_sound hu hj hc h hp' l1 l2 h1 h2 m1 m2
              exact ⟨z, by simp [execOp, he, hxv, hz1], hz2⟩
            | _ => rw [hxv] at hx; cases hx with | one hc => cases hc
          · rename_i hxe
            rw [hxe] at hx
            cases hxv : ρ x with
            | slice a len cap =>
              rw [hxv] at hx
              cases hx with | one hc => cases hc with | nil =>
              obtain ⟨z, hz1, hz2⟩ := slice_rows_sound (a := none) (cap := 0) (rows := []) hu hj .nil h hp' l1 l2 h1 h2 m1 m2
              have hz1' : (Instr.sliceAt t (.slice none 0 0) (lo.map ρ) (hi.map ρ) (mx.map ρ)).run P w = .ok z w := hz1
              exact ⟨z, by simp [execOp, he, hxv, hz1'], hz2⟩
            | _ => rw [hxv] at hx; cases hx with | one hc => cases hc
          · cases h
        · cases h
      · cases h
    · cases h
  · rename_i t x f he
    split at h
    · rename_i i hi
      obtain ⟨v, hv, e⟩ := Option.map_eq_some_iff.1 h
      cases e
      obtain ⟨y, h1, h2⟩ := fieldAddr_sound hi hv (hev x)
      exact ⟨y, by simp [execOp, he, h1], h2⟩
    · cases h
  · rename_i t x f he
    split at h
    · rename_i i hi
      obtain ⟨v, hv, e⟩ := Option.map_eq_some_iff.1 h
      cases e
      obtain ⟨y, h1, h2⟩ := field_sound hi hv (hev x)
      exact ⟨y, by simp [execOp, he, h1], h2⟩
    · cases h
  · rename_i t x ix he
    split at h
    · rename_i i m hi hm
      obtain ⟨k, hk⟩ := intOfAV_rel hm (hev ix)
      obtain ⟨y, h1, h2⟩ := indexAddr_sound hr hi h hp' (hev x) hk
      exact ⟨y, by simp [execOp, he, h1], h2⟩
    · cases h
  · rename_i t x ix he
    split at h
    · rename_i i m hi hm
      obtain ⟨k, hk⟩ := intOfAV_rel hm (hev ix)
      obtain ⟨y, h1, h2⟩ := index_sound hi h hp' (hev x) hk
      exact ⟨y, by simp [execOp, he, h1], h2⟩
    · cases h
  · rename_i t i he
    split at h
    · rename_i l hl
      obtain ⟨v, hv, e⟩ := Option.map_eq_some_iff.1 h
      cases e
      have hx := hev t
      rw [hl] at hx
      cases hxv : ρ t with
      | tuple xs =>
        rw [hxv] at hx
        cases hx with | tup hx =>
        obtain ⟨x, hx1, hx2⟩ := avrels_get hx hv
        refine ⟨x, ?_, hx2⟩
        have : xs[i]? = some x := by simpa using hx1
        simp [execOp, he, hxv, Instr.extract, this]
      | _ => rw [hxv] at hx; cases hx
    · cases h
  · rename_i x he
    have hx := hev x
    split at h
    · rename_i hxe; cases h; rw [hxe] at hx
      refine ⟨ρ x, ?_, hx⟩
      cases hxv : ρ x <;> rw [hxv] at hx <;> first
        | (cases hx with | one hc => cases hc; simp [execOp, he, hxv])
        | (cases hx with | one hc => cases hc)
    · rename_i hxe; cases h; rw [hxe] at hx
      refine ⟨ρ x, ?_, hx⟩
      cases hxv : ρ x <;> rw [hxv] at hx <;> first
        | (cases hx with | one hc => cases hc; simp [execOp, he, hxv])
        | (cases hx with | one hc => cases hc)
    · rename_i hxe; cases h; rw [hxe] at hx
      refine ⟨ρ x, ?_, hx⟩
      cases hxv : ρ x <;> rw [hxv] at hx <;> first
        | (cases hx with | one hc => cases hc; simp [execOp, he, hxv])
        | (cases hx with | one hc => cases hc)
    · rename_i hxe; cases h; rw [hxe] at hx
      refine ⟨ρ x, ?_, hx⟩
      cases hxv : ρ x <;> rw [hxv] at hx <;> first
        | (cases hx; simp [execOp, he, hxv])
        | (cases hx)
    · cases h
  · rename_i f first caps he
    split at h
    · rename_i a b ha hb
      cases h
      exact ⟨.func (.func f) (first.map ρ) (caps.map ρ), by simp [execOp, he, Instr.makeFunc], .fn (by simpa using avCs_rel hev ha) (by simpa using avCs_rel hev hb)⟩
    · cases h
  · rename_i t parts he
    split at h
    · rename_i i hi
      split at h
      · rename_i hg
        obtain ⟨cs, hcs, e⟩ := Option.map_eq_some_iff.1 h
        cases e
        obtain ⟨y, h1, h2⟩ := build_sound (vals := parts.map fun (k, x) => (k, ρ x)) hi hcs hg (by simpa using parts_rel hev parts.toList)
        exact ⟨y, by simp [execOp, he, h1], h2⟩
      · cases h
    · cases h
  · rename_i args ts he
    split at h
    · rename_i x t hargs hts
      obtain rfl : args = #[x] := by apply Array.ext'; simpa using hargs
      obtain rfl : ts = #[t] := by apply Array.ext'; simpa using hts
      have hx := hev x
      split at h
      · rename_i hs
        obtain ⟨i, hi, hi'⟩ := Option.map_eq_some_iff.1 hs
        have hu := (tiOf_spec hi).string hi'
        split at h
        · rename_i s hxe
          cases h
          rw [hxe] at hx
          have hx' := lit_rel hx
          exact ⟨_, by simp [execOp, he, resolve, invoke, builtin, hx', run_len_string hu], avlit rfl⟩
        · cases h
      · rename_i e hs
        obtain ⟨i, hi, hi'⟩ := Option.map_eq_some_iff.1 hs
        have hu := (tiOf_spec hi).slice hi'
        obtain ⟨rows, hrows, e'⟩ := Option.map_eq_some_iff.1 h
        cases e'
        obtain ⟨a, cap, hxv⟩ := (rowsOf_rel hr hrows hx).len
        exact ⟨_, by simp [execOp, he, resolve, invoke, builtin, hxv, run_len_slice hu], avlit rfl⟩
      · rename_i q e hs
        cases h
        obtain ⟨i, hi, hi'⟩ := Option.map_eq_some_iff.1 hs
        have hu := (tiOf_spec hi).array hi'
        exact ⟨_, by simp [execOp, he, resolve, invoke, builtin, run_len_array hu], avlit rfl⟩
      · cases h
    · cases h
  · rename_i args ts he
    obtain ⟨v, hv, e⟩ := Option.map_eq_some_iff.1 h
    cases e
    obtain ⟨k, k', a, b, hl, rfl⟩ := minmax_rel hv (avrels_map hev args.toList)
    refine ⟨_, ?_, avlit rfl⟩
    simp only [execOp, he, resolve, invoke, builtin, Sem.run_bind, Sem.run_pure, Result.andThen_ok, Builtin.min_, Array.toList_map, hl]
    simp [Builtin.min2]
  · rename_i args ts he
    obtain ⟨v, hv, e⟩ := Option.map_eq_some_iff.1 h
    cases e
    obtain ⟨k, k', a, b, hl, rfl⟩ := minmax_rel hv (avrels_map hev args.toList)
    refine ⟨_, ?_, avlit rfl⟩
    simp only [execOp, he, resolve, invoke, builtin, Sem.run_bind, Sem.run_pure, Result.andThen_ok, Builtin.max_, Array.toList_map, hl]
    simp [Builtin.max2]
  · cases h

end
end Go.Proofs.AE
