/- The abstract evaluator, part 17: from a function's code to what a call of it does. -/
import Derived.Test.YtniihihcklpdgaaAeDraw4
import Derived.Test.YtniihihcklpdgaaAeView
import Derived.Test.YtniihihcklpdgaaAeCode2
set_option linter.unusedVariables false
set_option linter.unusedSimpArgs false
namespace Go.Proofs.AE
open Go Go.RowKit

/-- A result that the evaluator knows. -/
def resV (P : Program) (s : S) : ResultVar → Option AV
  | .tmp t => some (getF s.fr t)
  | .cell t ty => match tiOf P ty with | some i => loadAV i s.hp (getF s.fr t) | none => none

def resVs (P : Program) (s : S) : List ResultVar → Option (List AV)
  | [] => some []
  | r :: rs => match resV P s r, resVs P s rs with | some v, some l => some (v :: l) | _, _ => none

def retAV (P : Program) (s : S) (rs : List ResultVar) : Option AV :=
  match resVs P s rs with
  | some [v] => some v
  | some l => some (.tup l)
  | none => none

/-- The end of a function. -/
def FinX (P : Program) (k : Nat) (rs : List ResultVar) (K : AV → Hp → Prop) (s : S) : Prop :=
  match retAV P s rs with
  | some r0 => ∃ r hp', Out k s.hp r0 hp' r ∧ K r hp'
  | none => False

def finQ (P : Program) (k : Nat) (rs : List ResultVar) (K : AV → Hp → Prop) : Exit → S → Prop
  | .normal, s | .ret, s => FinX P k rs K s
  | _, _ => False

/-- The frame at a function's beginning. -/
def enterF : Nat → List AV → List (Nat × AV)
  | _, [] => []
  | i, v :: vs => (i, v) :: enterF (i + 1) vs

section
variable {P : Program} {G : Nat → AV} {k n : Nat} {w w0 : World} {ok ok0 : Nat → Prop} {μ μ0 : List MB} {hp hp0 : Hp} {s : S} {a : Act}

theorem enterF_get : ∀ (args : List AV) (xs : List Value) (i : Nat), AVRels w ok μ args xs → ∀ t, AVRel w ok μ (getF (enterF i args) t) ((xs[t - i]?).getD undef) ∨ (t < i ∧ getF (enterF i args) t = .any)
  | [], xs, i, h, t => .inl .any
  | v :: vs, _, i, .cons h ht, t => by
    simp only [enterF, getF]
    by_cases hi : i = t
    · subst hi; rw [if_pos rfl]; left; simpa using h
    · rw [if_neg hi]
      rcases enterF_get vs _ (i + 1) ht t with h1 | ⟨h1, h2⟩
      · by_cases hlt : t < i
        · right
          refine ⟨hlt, ?_⟩
          have : ∀ (l : List AV) (j : Nat), t < j → getF (enterF j l) t = .any := by
            intro l
            induction l with
            | nil => intro j _; rfl
            | cons v l ih => intro j hj; simp only [enterF, getF]; rw [if_neg (by omega)]; exact ih (j + 1) (by omega)
          exact this vs (i + 1) (by omega)
        · left
          rw [show t - i = (t - (i + 1)) + 1 by omega, List.getElem?_cons_succ]; exact h1
      · by_cases hlt : t < i
        · exact .inr ⟨hlt, h2⟩
        · omega

theorem retAV_sound {fn : Func} {rs : List ResultVar} {r : AV} (hrs : fn.results.toList = rs) (hst : St n w ok μ s a) (h : retAV P s rs = some r) :
    ∃ x, (results fn a.tmps).run P w = .ok x w ∧ AVRel w ok μ r x := by
  have one : ∀ (rv : ResultVar) v, resV P s rv = some v → ∃ x, ((match rv with | .tmp t => pure (a.tmps.getD t undef) | .cell q t => do loadVar t (← asAddr (a.tmps.getD q undef)) : Sem Value)).run P w = .ok x w ∧ AVRel w ok μ v x := by
    intro rv v hv
    cases rv with
    | tmp t => cases hv; exact ⟨_, rfl, hst.fr t⟩
    | cell q t =>
      simp only [resV] at hv
      split at hv
      · rename_i i hi
        obtain ⟨ad, cs, xs, hx, hspot, _⟩ := loadAV_cells hst.hr hv (hst.fr q)
        obtain ⟨y, h1, h2⟩ := load_sound (P := P) hst.hr hi hv (hst.fr q)
        refine ⟨y, ?_, h2⟩
        show (do let ad ← asAddr (a.tmps.getD q undef); loadVar t ad : Sem Value).run P w = .ok y w
        rw [hx] at h1 ⊢
        simpa [Instr.loadAt, Instr.sureAddr, asAddr] using h1
      · cases hv
  have many : ∀ (l : List ResultVar) vs, resVs P s l = some vs → ∃ xs, (l.mapM (fun | .tmp t => pure (a.tmps.getD t undef) | .cell q t => do loadVar t (← asAddr (a.tmps.getD q undef)) : ResultVar → Sem Value)).run P w = .ok xs w ∧ AVRels w ok μ vs xs := by
    intro l
    induction l with
    | nil => intro vs h; cases h; exact ⟨[], by simp, .nil⟩
    | cons rv l ih =>
      intro vs h
      unfold resVs at h
      split at h
      · rename_i v vs' hv hvs
        cases h
        obtain ⟨x, h1, h2⟩ := one rv v hv
        obtain ⟨xs, h3, h4⟩ := ih vs' hvs
        refine ⟨x :: xs, ?_, .cons h2 h4⟩
        simp only [List.mapM_cons, Sem.run_bind]
        rw [h1]
        simp only [Result.andThen_ok, Sem.run_bind, h3, Sem.run_pure]
      · cases h
  have hlen : ∀ (vs : List AV) (xs : List Value), AVRels w ok μ vs xs → vs.length = xs.length := by
    intro vs
    induction vs with
    | nil => intro xs h; cases h; rfl
    | cons v vs ih => intro xs h; cases h with | cons _ t => simp [ih _ t]
  unfold retAV at h
  cases hvs : resVs P s rs with
  | none => rw [hvs] at h; cases h
  | some vs =>
    obtain ⟨xs, h1, h2⟩ := many rs vs hvs
    have hl := hlen _ _ h2
    have harr : (fn.results.mapM (fun | .tmp t => pure (a.tmps.getD t undef) | .cell q t => do loadVar t (← asAddr (a.tmps.getD q undef)) : ResultVar → Sem Value)).run P w = .ok xs.toArray w := by
      rw [Array.mapM_eq_mapM_toList, hrs]
      simp only [Sem.run_map, h1, Result.andThen_ok]
    rw [hvs] at h
    have he : (results fn a.tmps).run P w = ((fn.results.mapM (fun | .tmp t => pure (a.tmps.getD t undef) | .cell q t => do loadVar t (← asAddr (a.tmps.getD q undef)) : ResultVar → Sem Value)).run P w).andThen fun vs w' => (pure (if h : vs.size = 1 then vs[0] else .tuple vs) : Sem Value).run P w' := by
      unfold results; rw [Sem.run_bind]; rfl
    rw [he, harr]
    simp only [Result.andThen_ok]
    split at h
    · rename_i v hv
      cases hv; cases h
      match xs, hl, h2 with
      | [x], _, .cons h3 _ => exact ⟨x, by simp, h3⟩
    · rename_i l hne hv
      cases h
      obtain rfl := Option.some.inj hv
      have h1 : ¬ xs.length = 1 := by
        rw [← hl]; intro h1
        obtain ⟨v, hv'⟩ := List.length_eq_one_iff.1 h1
        exact hne v hv'
      refine ⟨.tuple xs.toArray, by simp [h1], .tup (by simpa using h2)⟩
    · rename_i hv; cases hv

theorem liftQ_then {K1 : Exit → S → Prop} {next : S → Prop} :
    ∀ e a w, Holds k n w0 ok0 μ0 hp0 G (thenA next K1 e) a w → Exit.then (fun a w => Holds k n w0 ok0 μ0 hp0 G next a w) (fun e a w => Holds k n w0 ok0 μ0 hp0 G (K1 e) a w) e a w := by
  intro e a w h
  cases e <;> exact h

theorem awp_sound (hm : P.follows .mixedOrders = true) : ∀ (c : Code) (ac : ACode) (Q : Exit → S → Prop) (s : S) (a : Act) (w : World) (ok : Nat → Prop) (μ : List MB), comp n c = some ac → St n w ok μ s a → Far k w0 ok0 μ0 hp0 w ok μ s.hp → s.gl = G → awp P k ac Q s →
    c.wp P (fun e a w => Holds k n w0 ok0 μ0 hp0 G (Q e) a w) a w := by
  intro c
  induction c with
  | skip =>
    intro ac Q s a w ok μ hc hst hfar hg h
    cases hc
    exact wp_skip ⟨ok, μ, s, hst, hfar, hg, h⟩
  | region id ops draw =>
    intro ac Q s a w ok μ hc hst hfar hg h
    cases draw with
    | true =>
      obtain ⟨al, hal, rfl⟩ := Option.map_eq_some_iff.1 hc
      refine regD_sound hm hal hst hfar hg h fun a w h => ?_
      obtain ⟨ok1, μ1, s1, q1, q2, q3, s2, ⟨hgl, hw⟩, hq⟩ := h
      obtain ⟨ok2, μ2, h3, h4⟩ := hw n w ok1 μ1 a q1
      exact ⟨ok2, μ2, s2, h3, q2.trans h4, hgl.trans q3, hq⟩
    | false =>
      obtain ⟨al, hal, rfl⟩ := Option.map_eq_some_iff.1 hc
      exact wp_region_list (aops_sound ops.toList al s a w ok μ _ hal hst hfar hg h fun a w h => h)
  | seq x y ihx ihy =>
    intro ac Q s a w ok μ hc hst hfar hg h
    simp only [comp] at hc
    split at hc
    · rename_i ax ay hx hy
      cases hc
      refine wp_seq (wp_mono (ihx ax _ s a w ok μ hx hst hfar hg h) ?_)
      intro e a' w' hh
      have := liftQ_then e a' w' hh
      cases e with
      | normal =>
        obtain ⟨ok', μ', s', q1, q2, q3, q4⟩ := hh
        exact ihy ay Q s' a' w' ok' μ' hy q1 q2 q3 q4
      | _ => exact this
    · cases hc
  | cond c x y ihx ihy =>
    intro ac Q s a w ok μ hc hst hfar hg h
    simp only [comp] at hc
    split at hc
    · rename_i ax ay hx hy
      cases hc
      simp only [awp] at h
      split at h
      · rename_i b hb
        have hv := hst.eval c
        rw [hb] at hv
        have hv' := lit_rel hv
        exact wp_cond_split hv' (fun hb => ihx ax Q s a w ok μ hx hst hfar hg (h.1 hb)) (fun hb => ihy ay Q s a w ok μ hy hst hfar hg (h.2 hb))
      · exact h.elim
    · cases hc
  | block id c ih =>
    intro ac Q s a w ok μ hc hst hfar hg h
    obtain ⟨ax, hx, rfl⟩ := Option.map_eq_some_iff.1 hc
    refine wp_block (wp_mono (ih ax _ s a w ok μ hx hst hfar hg h) ?_)
    intro e a' w' hh
    cases e with
    | exit id' =>
      simp only [Exit.inBlock]
      split
      · rename_i hid
        exact hh.mono fun s hs => by simpa [blockA, hid] using hs
      · rename_i hid
        exact hh.mono fun s hs => by simpa [blockA, hid] using hs
    | _ => exact hh
  | loop c ih =>
    intro ac Q s a w ok μ hc hst hfar hg h
    obtain ⟨ax, hx, rfl⟩ := Option.map_eq_some_iff.1 hc
    obtain ⟨I, m, ⟨s0, hweak, hI⟩, hround⟩ := h
    obtain ⟨hgl, hw⟩ := hweak
    obtain ⟨ok1, μ1, hst1, hfar1⟩ := hw n w ok μ a hst
    have key : ∀ (q : Nat) (s1 : S) (a1 : Act) (w1 : World) (ok1 : Nat → Prop) (μ1 : List MB), m s1 = q → I s1 → St n w1 ok1 μ1 s1 a1 → Far k w0 ok0 μ0 hp0 w1 ok1 μ1 s1.hp → s1.gl = G →
        ∀ (b : Frame) (kk : List Item) (cs : List Frame), ∃ e a' w', Holds k n w0 ok0 μ0 hp0 G (Q e) a' w' ∧ Arrives P (lone (b.at a1 (.code c :: .inLoop c :: kk)) cs w1) b kk cs e a' w' := by
      intro q
      induction q using Nat.strongRecOn with
      | _ q ihq =>
        intro s1 a1 w1 ok1 μ1 hm hI1 hst1 hfar1 hg1 b kk cs
        have hbody := ih ax _ s1 a1 w1 ok1 μ1 hx hst1 hfar1 hg1 (hround s1 hI1)
        obtain ⟨e, a2, w2, hq, harr⟩ := hbody b (.inLoop c :: kk) cs
        cases e with
        | normal =>
          obtain ⟨ok2, μ2, s2, h1, h2, h3, s3, ⟨hgl3, hw3⟩, hI3, hlt⟩ := hq
          obtain ⟨ok3, μ3, hst3, hfar3⟩ := hw3 n w2 ok2 μ2 a2 h1
          obtain ⟨e4, a4, w4, hq4, harr4⟩ := ihq (m s3) (hm ▸ hlt) s3 a2 w2 ok3 μ3 rfl hI3 hst3 (h2.trans hfar3) (hgl3.trans h3) b kk cs
          exact ⟨e4, a4, w4, hq4, .of_steps (Steps.trans harr (.one step_inLoop)) harr4⟩
        | exit id => exact ⟨_, a2, w2, hq, .pass (x := .inLoop c) rfl (fun _ _ => .inl (by simp)) harr⟩
        | goto l => exact ⟨_, a2, w2, hq, .pass (x := .inLoop c) rfl (fun _ _ => .inl (by simp)) harr⟩
        | ret => exact ⟨_, a2, w2, hq, .pass (x := .inLoop c) rfl (fun _ _ => .inl (by simp)) harr⟩
        | panic ch => exact ⟨_, a2, w2, hq, .pass (x := .inLoop c) rfl (fun _ _ => .inl (by simp)) harr⟩
        | outgrown => exact ⟨_, a2, w2, hq, .pass (x := .inLoop c) rfl (fun _ _ => .inl (by simp)) harr⟩
    intro b kk cs
    obtain ⟨e, a', w', h1, h2⟩ := key _ s0 a w ok1 μ1 rfl hI hst1 (hfar.trans hfar1) (hgl.trans hg) b kk cs
    exact ⟨e, a', w', h1, .of_steps (.one step_loop) h2⟩
  | exit id =>
    intro ac Q s a w ok μ hc hst hfar hg h
    cases hc
    exact wp_exit ⟨ok, μ, s, hst, hfar, hg, h⟩
  | ret =>
    intro ac Q s a w ok μ hc hst hfar hg h
    cases hc
    exact wp_ret ⟨ok, μ, s, hst, hfar, hg, h⟩
  | _ => intro ac Q s a w ok μ hc; cases hc


/-- A call that hands on blocks: the first k stay where they are, the others may turn. -/
def GCall (P : Program) (G : Nat → AV) (f : Nat) (k : Nat) (hp : Hp) (args : List AV) (K : AV → Hp → Prop) : Prop :=
  ∀ (w : World) (ok : Nat → Prop) (μ : List MB) (xs : List Value), HR w ok μ hp → GRel w ok G → AVRels w ok μ args xs →
    Calls P f xs.toArray w fun e w' => ∃ x r hp' ok' μ', e = .returned x ∧ Far k w ok μ hp w' ok' μ' hp' ∧ AVRel w' ok' μ' r x ∧ K r hp'

/-- A function's code: what a call does. -/
theorem gcall_of (hm : P.follows .mixedOrders = true) {f : Nat} {fn : Func} {c : Code} {ac : ACode} {args : List AV} {kk : Nat} {K : AV → Hp → Prop} (hf : P.funcs[f]? = some fn) (hb : fn.body = some c) (hc : comp fn.ntmps c = some ac) (hn : args.length ≤ fn.ntmps)
    (h : awp P kk ac (finQ P kk fn.results.toList K) ⟨enterF 0 args, G, hp⟩) : GCall P G f kk hp args K := by
  intro w ok μ xs hr hg hargs
  have hlen : ∀ (vs : List AV) (xs : List Value), AVRels w ok μ vs xs → vs.length = xs.length := by
    intro vs
    induction vs with
    | nil => intro xs h; cases h; rfl
    | cons v vs ih => intro xs h; cases h with | cons _ t => simp [ih _ t]
  have hl := hlen _ _ hargs
  have hst : St fn.ntmps w ok μ ⟨enterF 0 args, G, hp⟩ { tmps := xs.toArray ++ Array.replicate (fn.ntmps - xs.toArray.size) undef, defers := [] } := by
    refine ⟨hr, by simp; omega, rfl, fun t => ?_, hg⟩
    rcases enterF_get args xs 0 hargs t with h1 | ⟨h1, _⟩
    · have : (xs.toArray ++ Array.replicate (fn.ntmps - xs.toArray.size) undef).getD t undef = (xs[t]?).getD undef := by
        rw [Array.getD_eq_getD_getElem?, Array.getElem?_append]
        split
        · rename_i h; simp at h; simp [h]
        · rename_i h; simp at h
          rw [List.getElem?_eq_none h, Array.getElem?_replicate]
          split <;> rfl
      rw [this]; simpa using h1
    · omega
  have hfar : Far kk w ok μ hp w ok μ hp := (Step.refl hr).far
  have hwp := awp_sound hm c ac _ _ _ w ok μ hc hst hfar rfl h
  refine calls_of_wp hf hb (wp_mono hwp ?_)
  intro e a' w' hh
  have fin : ∀ a' w', Holds kk fn.ntmps w ok μ hp G (FinX P kk fn.results.toList K) a' w' → a'.defers = [] ∧ ∃ v, (results fn a'.tmps).run P w' = .ok v w' ∧ ∃ x r hp' ok' μ', Ending.returned v = .returned x ∧ Far kk w ok μ hp w' ok' μ' hp' ∧ AVRel w' ok' μ' r x ∧ K r hp' := by
    rintro a' w' ⟨ok1, μ1, s1, h1, h2, h3, hfin⟩
    unfold FinX at hfin
    split at hfin
    · rename_i r0 hret
      obtain ⟨r, hp', hout, hk⟩ := hfin
      obtain ⟨x, hx, hr1⟩ := retAV_sound rfl h1 hret
      obtain ⟨ok2, μ2, hfar2, hr2⟩ := hout w' ok1 μ1 x h1.hr hr1
      have hfar3 := h2.trans hfar2
      exact ⟨h1.defers, x, hx, x, r, hp', ok2, μ2, rfl, hfar3, hr2, hk⟩
    · exact hfin.elim
  cases e with
  | normal => exact fin a' w' hh
  | ret => exact fin a' w' hh
  | exit id => obtain ⟨_, _, _, _, _, _, h⟩ := hh; exact h.elim
  | goto l => obtain ⟨_, _, _, _, _, _, h⟩ := hh; exact h.elim
  | panic c => obtain ⟨_, _, _, _, _, _, h⟩ := hh; exact h.elim
  | outgrown => obtain ⟨_, _, _, _, _, _, h⟩ := hh; exact h.elim

theorem acall_of (hm : P.follows .mixedOrders = true) {f : Nat} {fn : Func} {c : Code} {ac : ACode} {args : List AV} {K : AV → Hp → Prop} (hf : P.funcs[f]? = some fn) (hb : fn.body = some c) (hc : comp fn.ntmps c = some ac) (hn : args.length ≤ fn.ntmps)
    (h : awp P hp.length ac (finQ P hp.length fn.results.toList K) ⟨enterF 0 args, G, hp⟩) : ACall P G f hp args K := by
  intro w ok μ xs hr hg hargs
  refine (gcall_of hm hf hb hc hn h w ok μ xs hr hg hargs).mono ?_
  rintro e w' ⟨x, r, hp', ok', μ', he, hfar, hrel, hk⟩
  rw [← hr.len] at hfar
  exact ⟨x, r, hp', ok', μ', he, hfar.step, hrel, hk⟩

end
end Go.Proofs.AE
