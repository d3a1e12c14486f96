/- The abstract evaluator: AeRun. -/
import Derived.Test.YtpdcfljbabpakaaAeEval
import Derived.MapKept
import Derived.KernelRfl
/- The abstract evaluator, part 19: the rules for calls and ends. -/
set_option linter.unusedVariables false
set_option linter.unusedSimpArgs false
namespace Go.Proofs.AE
open Go Go.RowKit

section
variable {P : Program} {G : Nat → AV}

@[go_sem ↓] theorem Cnd_tt {s s' : S} {A B : S → Prop} {a : Held A} {b : Held B} : Cnd true true s s' A B a b = A s := propext ⟨fun h => h.1 rfl, fun h => ⟨fun _ => h, nofun⟩⟩
@[go_sem ↓] theorem Cnd_ff {s s' : S} {A B : S → Prop} {a : Held A} {b : Held B} : Cnd false false s s' A B a b = A s := propext ⟨fun h => h.1 rfl, fun h => ⟨fun _ => h, nofun⟩⟩
@[go_sem ↓] theorem Cnd_tf {s s' : S} {A B : S → Prop} {a : Held A} {b : Held B} : Cnd true false s s' A B a b = B s' := propext ⟨fun h => h.2 rfl, fun h => ⟨nofun, fun _ => h⟩⟩
@[go_sem ↓] theorem Cnd_ft {s s' : S} {A B : S → Prop} {a : Held A} {b : Held B} : Cnd false true s s' A B a b = B s' := propext ⟨fun h => h.2 rfl, fun h => ⟨nofun, fun _ => h⟩⟩
theorem bytes_beq' (a b : ByteArray) : (a == b) = decide (a = b) := by
  rw [Bool.eq_iff_iff, decide_eq_true_iff]
  exact Go.MapKept.bytes_beq a b
attribute [go_sem] bytes_beq'
theorem Cnd.intro {b want : Bool} {s s' : S} {A B : S → Prop} {a : Held A} {c : Held B} (h1 : b = want → A s) (h2 : b = !want → B s') : Cnd b want s s' A B a c := ⟨h1, h2⟩

theorem PCall.k {f : Nat} {hp : Hp} {args args' : List AV} {r : AV} {K : AV → Hp → Prop} (h : PCall P G f args' r) (hc : coeAVs hp [] [] args' args) (hk : K r hp) {x : Held K} : CallK P G f hp args K x :=
  (h.at hc).mono fun r' hp' ⟨h1, h2⟩ => by subst h1; subst h2; exact hk
theorem PCall.d {f : Nat} {hp : Hp} {args args' : List AV} {r : AV} {K : AV → Hp → Prop} (h : PCall P G f args' r) (hc : coeAVs hp [] [] args' args) (hk : K r hp) {x : Held K} : DCall P G f hp args K x :=
  ⟨r, hp, (h.at hc).mono fun r' hp' ⟨h1, h2⟩ => ⟨h2, h1⟩, hk⟩
theorem PCall.kb {f : Nat} {hp : Hp} {args args' : List AV} {r : AV} {K : AV → Hp → Prop} (h : PCall P G f args' r) (hf : flatAV r = true) (hc : coeAVs hp (List.range hp.length) [] args' args) (hk : K r hp) {x : Held K} : CallK P G f hp args K x :=
  (h.borrow _ hf hc).mono fun r' hp' ⟨h1, h2⟩ => by subst h1; subst h2; exact hk
theorem PCall.db {f : Nat} {hp : Hp} {args args' : List AV} {r : AV} {K : AV → Hp → Prop} (h : PCall P G f args' r) (hf : flatAV r = true) (hc : coeAVs hp (List.range hp.length) [] args' args) (hk : K r hp) {x : Held K} : DCall P G f hp args K x :=
  ⟨r, hp, (h.borrow _ hf hc).mono fun r' hp' ⟨h1, h2⟩ => ⟨h2, h1⟩, hk⟩

theorem Wk.refl {k : Nat} {s : S} {K : S → Prop} {x : Held K} (h : K s) : Wk k s K x := ⟨s, Weak.refl k s, h⟩

theorem PCall.kf {f : Nat} {hp : Hp} {args : List AV} {r : AV} {K : AV → Hp → Prop} (h : PCall P G f args r) (hi : idAVs args = true) (hk : K r hp) {x : Held K} : CallK P G f hp args K x := h.k (idAVs_coe hi) hk
theorem PCall.df {f : Nat} {hp : Hp} {args : List AV} {r : AV} {K : AV → Hp → Prop} (h : PCall P G f args r) (hi : idAVs args = true) (hk : K r hp) {x : Held K} : DCall P G f hp args K x := h.d (idAVs_coe hi) hk

/-- The end of a function of plain data. -/
def FinP (P : Program) (rs : List ResultVar) (R : AV) (s : S) : Prop :=
  match retAV P s rs with
  | some r0 => coeAV s.hp (List.range s.hp.length) [] R r0
  | none => False

def finP (P : Program) (rs : List ResultVar) (R : AV) : Exit → S → Prop
  | .normal, s | .ret, s => FinP P rs R s
  | _, _ => False

theorem FinP.fin {rs : List ResultVar} {R : AV} {s : S} (h : FinP P rs R s) : FinX P 0 rs (fun r' hp' => hp' = [] ∧ r' = R) s := by
  unfold FinP at h
  unfold FinX
  split at h
  · rename_i r0 hr
    rw [hr]
    exact ⟨R, [], out_plain h, rfl, rfl⟩
  · exact h.elim

theorem aop1_mono {o : AOp} {s : S} {K K' : S → Prop} (hk : ∀ s, K s → K' s) (h : aop1 P o s K) : aop1 P o s K' := by
  unfold aop1 at h ⊢
  split at h
  · exact ⟨h.1, hk _ h.2⟩
  · split at h
    · exact ⟨h.1, hk _ h.2⟩
    · exact h
theorem aop_mono {o : AOp} {s : S} {K K' : S → Prop} (hk : ∀ s, K s → K' s) (h : aop P o s K) : aop P o s K' := by
  unfold aop aopH aopJ aopC aopL at h ⊢
  split at h
  · exact ⟨h.1, hk _ h.2⟩
  · split at h
    · exact ⟨h.1, hk _ h.2⟩
    · split at h
      · exact ⟨h.1, hk _ h.2⟩
      split at h
      · exact ⟨h.1, fun c h1 h2 => hk _ (h.2 c h1 h2)⟩
      split at h
      · refine ⟨h.1, ?_⟩
        rcases h.2 with h2 | h2 | h2
        · exact .inl (ACall.mono h2 fun _ _ => hk _)
        · refine .inr (.inl ?_)
          unfold BorK at h2 ⊢
          split at h2
          · obtain ⟨h3, r, h4, h5, h6, h7⟩ := h2
            exact ⟨h3, r, h4, h5, hk _ h6, h7⟩
          · exact h2
        · refine .inr (.inr ?_)
          unfold FrzK at h2 ⊢
          split at h2
          · exact ⟨h2.1, ACall.mono h2.2 fun _ _ => hk _⟩
          · exact h2
      · split at h
        · exact ⟨fun e => hk _ (h.1 e), fun e => hk _ (h.2 e)⟩
        · split at h
          · exact fun q hq => hk _ (h q hq)
          · exact aop1_mono hk h

theorem aops_mono {K K' : S → Prop} (hk : ∀ s, K s → K' s) : ∀ {l : List AOp} {s : S}, aops P l s K → aops P l s K'
  | [], s, h => hk s h
  | o :: l, s, h => by
    unfold aops at h ⊢
    split at h
    · exact aop_mono (fun s => aops_mono hk) h
    · split at h
      · exact ⟨fun e => aop_mono (fun s => aops_mono hk) (h.1 e), fun e => aops_mono hk (h.2 e)⟩
      · exact aops_mono hk h
      · exact h

theorem aopD_mono {o : AOp} {s : S} {K K' : S → Prop} (hk : ∀ s, K s → K' s) (h : aopD P o s K) : aopD P o s K' := by
  unfold aopD aopDH at h ⊢
  split at h
  · exact ⟨h.1, hk _ h.2⟩
  · split at h
    · exact ⟨h.1, hk _ h.2⟩
    · split at h
      · exact ⟨h.1, hk _ h.2⟩
      split at h
      · obtain ⟨h1, r, hp', h2, h3⟩ := h
        exact ⟨h1, r, hp', h2, hk _ h3⟩
      · split at h
        · exact ⟨fun e => hk _ (h.1 e), fun e => hk _ (h.2 e)⟩
        · exact h

theorem aopsD_mono : ∀ {l : List AOp} {hs : List S} {s : S} {K K' : List S → S → Prop}, (∀ h s, K h s → K' h s) → aopsD P l hs s K → aopsD P l hs s K'
  | [], hs, s, _, _, hk, h => hk hs s h
  | o :: l, hs, s, _, _, hk, h => by
    unfold aopsD at h ⊢
    split at h
    · exact aopD_mono (fun s => aopsD_mono hk) h
    · split at h
      · exact ⟨fun e => aopD_mono (fun s => aopsD_mono hk) (h.1 e), fun e => aopsD_mono hk (h.2 e)⟩
      · exact aopsD_mono hk h
      · exact h

theorem allAlts_mono {s : S} {K K' : S → Prop} (hk : ∀ s, K s → K' s) : ∀ {l : List (List AOp × List (Nat × Nat))}, allAlts P s K l → allAlts P s K' l
  | [], _ => trivial
  | (_, _) :: _, h => ⟨aopsD_mono (fun _ _ ⟨h1, h2⟩ => ⟨h1, hk _ h2⟩) h.1, allAlts_mono hk h.2⟩

theorem awp_mono {k : Nat} : ∀ {c : ACode} {Q Q' : Exit → S → Prop} {s : S}, (∀ e s, Q e s → Q' e s) → awp P k c Q s → awp P k c Q' s
  | .skip, _, _, _, hq, h => hq _ _ h
  | .reg ops, _, _, _, hq, h => aops_mono (hq .normal) h
  | .regD alts, _, _, _, hq, h => allAlts_mono (fun _ ⟨s', h1, h2⟩ => ⟨s', h1, hq .normal s' h2⟩) h
  | .seq a b, Q, Q', s, hq, h => by
    refine awp_mono (c := a) (fun e s he => ?_) h
    cases e with
    | normal => exact awp_mono (c := b) hq he
    | _ => exact hq _ _ he
  | .cond c t e, Q, Q', s, hq, h => by
    simp only [awp] at h ⊢
    split at h
    · exact ⟨fun x => awp_mono hq (h.1 x), fun x => awp_mono hq (h.2 x)⟩
    · exact h
  | .block id c, Q, Q', s, hq, h => by
    refine awp_mono (c := c) (fun e s he => ?_) h
    cases e with
    | exit id' => simp only [blockA] at he ⊢; split at he <;> (rename_i hid; simp [hid]; exact hq _ _ he)
    | _ => exact hq _ _ he
  | .loop c, Q, Q', s, hq, h => by
    obtain ⟨I, m, h1, h2⟩ := h
    refine ⟨I, m, h1, fun s hs => awp_mono (c := c) (fun e s' he => ?_) (h2 s hs)⟩
    cases e with
    | normal => exact he
    | _ => exact hq _ _ he
  | .exit id, _, _, _, hq, h => hq _ _ h
  | .ret, _, _, _, hq, h => hq _ _ h

/-- A whole function of plain data. -/
theorem pcall (hm : P.follows .mixedOrders = true) {f : Nat} {fn : Func} {ac : ACode} {args : List AV} {r : AV} {rs : List ResultVar} (hf : P.funcs[f]? = some fn) (hc : fn.body.bind (comp fn.ntmps) = some ac) (hrs : fn.results.toList = rs) (hn : args.length ≤ fn.ntmps)
    (h : awp P 0 ac (finP P rs r) ⟨enterF 0 args, G, []⟩) : PCall P G f args r := by
  refine pcall_of hm hf hc hrs hn (awp_mono (fun e s he => ?_) h)
  cases e with
  | normal => exact FinP.fin he
  | ret => exact FinP.fin he
  | _ => exact he

theorem FinG.fin {k : Nat} {rs : List ResultVar} {R : AV} {hp' : Hp} {s : S} (h : FinG P k rs R hp' s) : FinX P k rs (fun r1 hp1 => r1 = R ∧ hp1 = hp') s := by
  unfold FinG at h
  unfold FinX
  cases hret : retAV P s rs with
  | none => rw [hret] at h; exact h.elim
  | some r0 =>
    rw [hret] at h
    show ∃ r hp1, Out k s.hp r0 hp1 r ∧ r = R ∧ hp1 = hp'
    cases hn : narrowR s.hp r0 with
    | some q =>
      obtain ⟨p, hp1, r1⟩ := q
      simp only [hn] at h
      refine ⟨R, hp', fun w ok μ x hr1 hv => ?_, rfl, rfl⟩
      obtain ⟨μ1, s1, hv1⟩ := narrow_step hr1 hv hn h.1
      obtain ⟨ok2, μ2, f2, hv2⟩ := out_auto h.2 w ok μ1 x s1.hr hv1
      exact ⟨ok2, μ2, s1.far.trans f2, hv2⟩
    | none =>
      simp only [hn] at h
      cases ht : thawR s.hp r0 R hp' with
      | some q =>
        obtain ⟨p, hp1, r1⟩ := q
        simp only [ht] at h
        refine ⟨R, hp', fun w ok μ x hr1 hv => ?_, rfl, rfl⟩
        obtain ⟨μ1, s1, hv1⟩ := thaw_step hr1 hv ht h.1
        obtain ⟨ok2, μ2, f2, hv2⟩ := out_auto h.2 w ok μ1 x s1.hr hv1
        exact ⟨ok2, μ2, s1.far.trans f2, hv2⟩
      | none =>
        simp only [ht] at h
        exact ⟨R, hp', out_auto h, rfl, rfl⟩

theorem HR.arj {w : World} {ok : Nat → Prop} {μ : List MB} {e : TypeId} {k : Nat} {rows : List (List V)} {hp : Hp} (hk : 0 < k) (hr : HR w ok μ (some (.arr e k rows) :: hp)) :
    ∃ c x, rows.length ≤ c ∧ c ≤ maxLen ∧ UL k rows ∧ HR w ok μ (some (.arj e k c rows) :: hp) ∧ μ[0]? = some (.arr x) ∧ SubOf k 0 rows.length c x x := by
  obtain ⟨m, hm, hb⟩ := hr.rel 0 _ rfl
  cases m with
  | box => exact hb.elim
  | arr x =>
  obtain ⟨xs, hown, hall, hul⟩ := hb
  have key : ∃ c, rows.length ≤ c ∧ c ≤ maxLen ∧ BRel w ok μ (.arj e k c rows) (.arr x) ∧ SubOf k 0 rows.length c x x := by
    rcases hown.2 with ⟨rfl, hn⟩ | ⟨g, cap, cur, rfl, _, hg, hnc, hcm, hcs, htake⟩
    · exact ⟨0, by omega, Nat.zero_le _, ⟨hk, hul, .inl ⟨rfl, rfl, List.eq_nil_of_length_eq_zero hn⟩⟩, .nil hn rfl⟩
    · refine ⟨cap, hnc, hcm, ⟨hk, hul, .inr ⟨g, rows.length, cur, rfl, hg, hnc, hcm, hcs, by rw [htake]; exact hall⟩⟩, ?_⟩
      have := SubOf.at (k := k) (off := 0) (len := rows.length) (g := g) (n := rows.length) (c := cap) (o := 0) (fun _ => by simp)
      simpa using this
  obtain ⟨c, h1, h2, h3, h4⟩ := key
  have old : ∀ (i : Nat) b, (some (Blk.arj e k c rows) :: hp)[i]? = some (some b) → ∃ b', (some (Blk.arr e k rows) :: hp)[i]? = some (some b') := by
    intro i b h
    cases i with
    | zero => exact ⟨_, rfl⟩
    | succ i => exact ⟨b, h⟩
  refine ⟨c, x, h1, h2, hul, ⟨hr.len, ?_, ?_, ?_⟩, hm, h4⟩
  · intro i b hb
    cases i with
    | zero => cases hb; exact ⟨_, hm, h3⟩
    | succ i => exact hr.rel (i + 1) b hb
  · intro i j b c m n k hij hb hc
    obtain ⟨b', hb'⟩ := old i b hb
    obtain ⟨c', hc'⟩ := old j c hc
    exact hr.inj i j b' c' m n k hij hb' hc'
  · intro k hk
    refine ⟨(hr.okn k hk).1, fun i b m hb => ?_⟩
    obtain ⟨b', hb'⟩ := old i b hb
    exact (hr.okn k hk).2 i b' m hb'

theorem ownL_arj {μ : List MB} {e : TypeId} {k c : Nat} {rows : List (List V)} {hp : Hp} {b : Nat} : OwnL (some (.arj e k c rows) :: hp) μ b ↔ OwnL (some (.arr e k rows) :: hp) μ b := by
  constructor <;> rintro ⟨i, blk, m, h1, h2, h3⟩ <;> (cases i with
    | zero => exact ⟨0, _, m, rfl, h2, h3⟩
    | succ i => exact ⟨i + 1, blk, m, h1, h2, h3⟩)

/-- What is known of an own array of whatever room is known of one of every room. -/
theorem DetCall.arj {f : Nat} {e : TypeId} {k : Nat} {rows : List (List V)} {hp hp' : Hp} {rest : List AV} {r : AV} (hk : 0 < k)
    (h : ∀ c, rows.length ≤ c → c ≤ maxLen → UL k rows → DetCall P G f 0 (some (.arj e k c rows) :: hp) (.one (.sub 0 k 0 rows.length c) :: rest) r hp') : DetCall P G f 0 (some (.arr e k rows) :: hp) (.one (.ar 0) :: rest) r hp' := by
  intro w ok μ xs hr hg hargs
  obtain ⟨c, x, h1, h2, hul, hr', hμ, hs⟩ := hr.arj hk
  cases hargs with | cons ha ht =>
  cases ha with | one hc => cases hc with | ar hμ' _ =>
  rw [hμ] at hμ'; cases hμ'
  refine (h c h1 h2 hul w ok μ _ hr' hg (.cons (.one (.sub _ _ _ _ hμ hs)) ht)).mono ?_
  rintro e' w' ⟨y, r', hp1, ok', μ', rfl, hf, hrel, hk'⟩
  refine ⟨y, r', hp1, ok', μ', rfl, ⟨hf.hr, hf.os, hf.tape, hf.output, hf.size, fun b hb hn => hf.frame b hb (fun ho => hn (ownL_arj.1 ho)), hf.oksub, ?_, ?_, hf.ext⟩, hrel, hk'⟩
  · intro b hb
    rcases hf.okfrom b hb with h3 | h3 | h3
    · exact .inl h3
    · exact .inr (.inl h3)
    · exact .inr (.inr (ownL_arj.1 h3))
  · intro b hb
    rcases hf.ownfrom b hb with h3 | h3
    · exact .inl h3
    · exact .inr (ownL_arj.1 h3)

/-- The same, wherever the array stands. -/
theorem HR.arjAt {w : World} {ok : Nat → Prop} {μ : List MB} {e : TypeId} {k i : Nat} {rows : List (List V)} {hp : Hp} (hk : 0 < k) (hi : hp[i]? = some (some (.arr e k rows))) (hr : HR w ok μ hp) :
    ∃ c x, rows.length ≤ c ∧ c ≤ maxLen ∧ UL k rows ∧ HR w ok μ (hp.set i (some (.arj e k c rows))) ∧ μ[i]? = some (.arr x) ∧ SubOf k 0 rows.length c x x := by
  obtain ⟨m, hm, hb⟩ := hr.rel i _ hi
  cases m with
  | box => exact hb.elim
  | arr x =>
  obtain ⟨xs, hown, hall, hul⟩ := hb
  have key : ∃ c, rows.length ≤ c ∧ c ≤ maxLen ∧ BRel w ok μ (.arj e k c rows) (.arr x) ∧ SubOf k 0 rows.length c x x := by
    rcases hown.2 with ⟨rfl, hn⟩ | ⟨g, cap, cur, rfl, _, hg, hnc, hcm, hcs, htake⟩
    · exact ⟨0, by omega, Nat.zero_le _, ⟨hk, hul, .inl ⟨rfl, rfl, List.eq_nil_of_length_eq_zero hn⟩⟩, .nil hn rfl⟩
    · refine ⟨cap, hnc, hcm, ⟨hk, hul, .inr ⟨g, rows.length, cur, rfl, hg, hnc, hcm, hcs, by rw [htake]; exact hall⟩⟩, ?_⟩
      have := SubOf.at (k := k) (off := 0) (len := rows.length) (g := g) (n := rows.length) (c := cap) (o := 0) (fun _ => by simp)
      simpa using this
  obtain ⟨c, h1, h2, h3, h4⟩ := key
  have old : ∀ (j : Nat) b, (hp.set i (some (Blk.arj e k c rows)))[j]? = some (some b) → ∃ b', hp[j]? = some (some b') := by
    intro j b h
    rcases getElem?_set_cases h with ⟨rfl, _⟩ | ⟨_, h'⟩
    · exact ⟨_, hi⟩
    · exact ⟨b, h'⟩
  refine ⟨c, x, h1, h2, hul, ⟨by simp [hr.len], ?_, ?_, ?_⟩, hm, h4⟩
  · intro j b hb
    rcases getElem?_set_cases hb with ⟨rfl, h'⟩ | ⟨_, h'⟩
    · cases h'; exact ⟨_, hm, h3⟩
    · exact hr.rel j b h'
  · intro j1 j2 b c m n k hij hb hc
    obtain ⟨b', hb'⟩ := old j1 b hb
    obtain ⟨c', hc'⟩ := old j2 c hc
    exact hr.inj j1 j2 b' c' m n k hij hb' hc'
  · intro k hk
    refine ⟨(hr.okn k hk).1, fun j b m hb => ?_⟩
    obtain ⟨b', hb'⟩ := old j b hb
    exact (hr.okn k hk).2 j b' m hb'

theorem ownL_arjAt {μ : List MB} {e : TypeId} {k c i : Nat} {rows : List (List V)} {hp : Hp} {b : Nat} (hi : hp[i]? = some (some (.arr e k rows))) : OwnL (hp.set i (some (.arj e k c rows))) μ b ↔ OwnL hp μ b := by
  constructor <;> rintro ⟨j, blk, m, h1, h2, h3⟩
  · rcases getElem?_set_cases h1 with ⟨rfl, _⟩ | ⟨_, h'⟩
    · exact ⟨j, _, m, hi, h2, h3⟩
    · exact ⟨j, blk, m, h', h2, h3⟩
  · by_cases hj : i = j
    · subst hj
      exact ⟨i, .arj e k c rows, m, by rw [List.getElem?_set_self (lt_of_getElem? hi)], h2, h3⟩
    · exact ⟨j, blk, m, by rw [List.getElem?_set_ne hj]; exact h1, h2, h3⟩

theorem DetCall.arjAt {f kk i : Nat} {e : TypeId} {k : Nat} {rows : List (List V)} {hp hp' : Hp} {rest : List AV} {r : AV} (hk : 0 < k) (hi : hp[i]? = some (some (.arr e k rows)))
    (h : ∀ c, rows.length ≤ c → c ≤ maxLen → UL k rows → DetCall P G f kk (hp.set i (some (.arj e k c rows))) (.one (.sub i k 0 rows.length c) :: rest) r hp') : DetCall P G f kk hp (.one (.ar i) :: rest) r hp' := by
  intro w ok μ xs hr hg hargs
  obtain ⟨c, x, h1, h2, hul, hr', hμ, hs⟩ := hr.arjAt hk hi
  cases hargs with | cons ha ht =>
  cases ha with | one hc => cases hc with | ar hμ' _ =>
  rw [hμ] at hμ'; cases hμ'
  refine (h c h1 h2 hul w ok μ _ hr' hg (.cons (.one (.sub _ _ _ _ hμ hs)) ht)).mono ?_
  rintro e' w' ⟨y, r', hp1, ok', μ', rfl, hf, hrel, hk'⟩
  refine ⟨y, r', hp1, ok', μ', rfl, ⟨hf.hr, hf.os, hf.tape, hf.output, hf.size, fun b hb hn => hf.frame b hb (fun ho => hn ((ownL_arjAt hi).1 ho)), hf.oksub, ?_, ?_, hf.ext⟩, hrel, hk'⟩
  · intro b hb
    rcases hf.okfrom b hb with h3 | h3 | h3
    · exact .inl h3
    · exact .inr (.inl h3)
    · exact .inr (.inr ((ownL_arjAt hi).1 h3))
  · intro b hb
    rcases hf.ownfrom b hb with h3 | h3
    · exact .inl h3
    · exact .inr ((ownL_arjAt hi).1 h3)

/-- A whole function that hands back blocks. -/
theorem gcall (hm : P.follows .mixedOrders = true) {f k : Nat} {fn : Func} {ac : ACode} {hp hp' : Hp} {args : List AV} {r : AV} {rs : List ResultVar} (hf : P.funcs[f]? = some fn) (hc : fn.body.bind (comp fn.ntmps) = some ac) (hrs : fn.results.toList = rs) (hn : args.length ≤ fn.ntmps)
    (h : awp P k ac (finG P k rs r hp') ⟨enterF 0 args, G, hp⟩) : DetCall P G f k hp args r hp' := by
  obtain ⟨c, hb, hc⟩ := Option.bind_eq_some_iff.1 hc
  subst hrs
  refine gcall_of hm hf hb hc hn (awp_mono (fun e s he => ?_) h)
  cases e with
  | normal => exact FinG.fin he
  | ret => exact FinG.fin he
  | _ => exact he

/-! One rule for each kind of call, wherever it stands. -/
class CQ (Q : Program → (Nat → AV) → Nat → Hp → List AV → (K : AV → Hp → Prop) → Held K → Prop) : Prop where
  up : ∀ {P : Program} {G : Nat → AV} {f : Nat} {hp hp' : Hp} {args : List AV} {r : AV} {K : AV → Hp → Prop} {x : Held K}, (ACall P G f hp args fun r' hp'' => r' = r ∧ hp'' = hp') → K r hp' → Q P G f hp args K x
instance : CQ CallK := ⟨fun h hk => h.mono fun r' hp' ⟨h1, h2⟩ => by subst h1; subst h2; exact hk⟩
instance : CQ DCall := ⟨fun h hk => ⟨_, _, h, hk⟩⟩
theorem qkc {f : Nat} {args args' : List AV} {r : AV} (h : PCall P G f args' r) (e : (nrmAVs [] args, inAVs [] args) = (args', true)) : ∀ hp, ACall P G f hp args fun r' hp'' => r' = r ∧ hp'' = hp := by
  have hn : nrmAVs [] args = args' := congrArg Prod.fst e
  have hi : inAVs [] args = true := congrArg Prod.snd e
  exact fun hp => (h.at (hn ▸ nrmAVs_coe hi)).mono fun r' hp' ⟨h1, h2⟩ => ⟨h2, h1⟩
theorem qcn {Q} [CQ Q] {f : Nat} {hp : Hp} {args : List AV} {r : AV} {K : AV → Hp → Prop} (h : ∀ hp, ACall P G f hp args fun r' hp'' => r' = r ∧ hp'' = hp) (hk : K r hp) {x : Held K} : Q P G f hp args K x := CQ.up (h hp) hk
theorem qcf {Q} [CQ Q] {f : Nat} {hp : Hp} {args : List AV} {r : AV} {K : AV → Hp → Prop} (h : PCall P G f args r) (hi : idAVs args = true) (hk : K r hp) {x : Held K} : Q P G f hp args K x :=
  CQ.up ((h.at (idAVs_coe hi)).mono fun r' hp' ⟨h1, h2⟩ => ⟨h2, h1⟩) hk
theorem qkz {f : Nat} {hp : Hp} {args args' : List AV} {r : AV} (h : PCall P G f args' r) (e : (nzAVs hp args, idAVs args') = (args', true)) : ACall P G f hp args fun r' hp'' => r' = r ∧ hp'' = dropF (arsAVs args) hp := by
  have hn : nzAVs hp args = args' := congrArg Prod.fst e
  have hi : idAVs args' = true := congrArg Prod.snd e
  exact h.frz hn hi
theorem qcz {f : Nat} {hp : Hp} {args : List AV} {r : AV} {K : AV → Hp → Prop} (h : ACall P G f hp args fun r' hp'' => r' = r ∧ hp'' = dropF (arsAVs args) hp) (hk : ∀ hp1, Nf (dropF (arsAVs args) hp) hp1 → K r hp1) {x : Held K} : DCall P G f hp args K x :=
  ⟨r, _, h, hk _ ⟨rfl⟩⟩
theorem qcg {Q} [CQ Q] {f k : Nat} {hp hp' hpc : Hp} {args argsc : List AV} {r : AV} {K : AV → Hp → Prop} (h : DetCall P G f k hp args r hp')
    (hk : ∀ ρ, Nf (callρ hpc hp args argsc) ρ → (subH hpc ρ ρ = hp ∧ nrmAVs ρ argsc = args ∧ callChk hpc ρ k argsc = true) ∧ ∀ r1 hp1, Nf (renAV (sig ρ k hpc.length) r) r1 → Nf (mergeH hpc ρ k hp') hp1 → K r1 hp1) {x : Held K} : Q P G f hpc argsc K x :=
  let ⟨⟨h1, h2, h3⟩, h4⟩ := hk _ ⟨rfl⟩
  CQ.up ((gcall_auto h h1 h2 h3).mono fun r1 hp1 ⟨r2, hp2, ⟨e1, e2⟩, e3, e4⟩ => by subst e1; subst e2; exact ⟨e3, e4⟩) (h4 _ _ ⟨rfl⟩ ⟨rfl⟩)

attribute [go_sem] finP FinP idAVs idAV idC flatAV flatAVs flatC
end
end Go.Proofs.AE

/- The abstract evaluator, part 19b: the rules for calls, which close what is to be looked at by themselves. -/
set_option linter.unusedVariables false
set_option linter.unusedSimpArgs false
namespace Go.Proofs.AE
open Go Go.RowKit

section
variable {P : Program} {G : Nat → AV}

theorem Cn {b want : Bool} {s s' : S} {A B : S → Prop} {a : Held A} {c : Held B} (h1 : b = want → A s) (h2 : b = !want → B s') : Cnd b want s s' A B a c := ⟨h1, h2⟩
theorem wR {k : Nat} {s : S} {K : S → Prop} {x : Held K} (h : K s) : Wk k s K x := Wk.refl h
theorem wr (k : Nat) (s : S) : Weak k s s := Weak.refl k s
theorem wa {k : Nat} {s s' : S} (h : WA k s s') : Weak k s s' := weak_auto h

theorem q {o : AOp} {s : S} {f : Nat} {args args' : List AV} {r : AV} {K : S → Prop} {x : Held K} (h : PCall P s.gl f args' r) (hk : K ({ s with hp := s.hp }.put o.dst r))
    (e : (nrmAVs [] args, inAVs [] args) = (args', true) := by with_unfolding_all rfl) : CallZ P o s f args K x := CallZ.l (qcn (qkc h e) hk)
theorem qd {Q} [CQ Q] {f : Nat} {hp : Hp} {args args' : List AV} {r : AV} {K : AV → Hp → Prop} {x : Held K} (h : PCall P G f args' r) (hk : K r hp)
    (e : (nrmAVs [] args, inAVs [] args) = (args', true) := by with_unfolding_all rfl) : Q P G f hp args K x := qcn (qkc h e) hk
theorem q1 {o : AOp} {s : S} {f : Nat} {args : List AV} {r : AV} {K : S → Prop} {x : Held K} (h : PCall P s.gl f args r) (hk : K ({ s with hp := s.hp }.put o.dst r))
    (e : idAVs args = true := by with_unfolding_all rfl) : CallZ P o s f args K x := CallZ.l (qcf h e hk)
theorem q1d {Q} [CQ Q] {f : Nat} {hp : Hp} {args : List AV} {r : AV} {K : AV → Hp → Prop} {x : Held K} (h : PCall P G f args r) (hk : K r hp)
    (e : idAVs args = true := by with_unfolding_all rfl) : Q P G f hp args K x := qcf h e hk
theorem qz {f : Nat} {hp hp1 : Hp} {args args' : List AV} {r : AV} {K : AV → Hp → Prop} {x : Held K} (h : PCall P G f args' r) (hk : K r hp1)
    (e : (nzAVs hp args, idAVs args') = (args', true) := by with_unfolding_all rfl)
    (e1 : dropF (arsAVs args) hp = hp1 := by (try conv => lhs; simp -dsimp [go_sem]); all_goals rfl) : DCall P G f hp args K x := by
  subst e1; exact ⟨r, _, qkz h e, hk⟩
theorem qg {o : AOp} {s : S} {f k : Nat} {hp hp' hp1 : Hp} {args argsc : List AV} {r r1 : AV} {K : S → Prop} {x : Held K} {ρ : List Nat} (h : DetCall P s.gl f k hp args r hp') (hk : K ({ s with hp := hp1 }.put o.dst r1))
    (e1 : callρ s.hp hp args argsc = ρ := by (try conv => lhs; simp -dsimp [go_sem]); all_goals rfl)
    (e2 : subH s.hp ρ ρ = hp := by with_unfolding_all rfl)
    (e3 : nrmAVs ρ argsc = args := by with_unfolding_all rfl)
    (e4 : callChk s.hp ρ k argsc = true := by with_unfolding_all rfl)
    (e5 : renAV (sig ρ k s.hp.length) r = r1 := by (try conv => lhs; simp -dsimp [go_sem]); all_goals rfl)
    (e6 : mergeH s.hp ρ k hp' = hp1 := by (try conv => lhs; simp -dsimp [go_sem]); all_goals rfl) : CallZ P o s f argsc K x := by
  subst e1; subst e5; subst e6
  exact CallZ.l (CQ.up ((gcall_auto h e2 e3 e4).mono fun r1 hp1 ⟨r2, hp2, ⟨e1, e2⟩, e3, e4⟩ => by subst e1; subst e2; exact ⟨e3, e4⟩) hk)
theorem qgd {Q} [CQ Q] {f k : Nat} {hp hp' hp1 hpc : Hp} {args argsc : List AV} {r r1 : AV} {K : AV → Hp → Prop} {x : Held K} {ρ : List Nat} (h : DetCall P G f k hp args r hp') (hk : K r1 hp1)
    (e1 : callρ hpc hp args argsc = ρ := by (try conv => lhs; simp -dsimp [go_sem]); all_goals rfl)
    (e2 : subH hpc ρ ρ = hp := by with_unfolding_all rfl)
    (e3 : nrmAVs ρ argsc = args := by with_unfolding_all rfl)
    (e4 : callChk hpc ρ k argsc = true := by with_unfolding_all rfl)
    (e5 : renAV (sig ρ k hpc.length) r = r1 := by (try conv => lhs; simp -dsimp [go_sem]); all_goals rfl)
    (e6 : mergeH hpc ρ k hp' = hp1 := by (try conv => lhs; simp -dsimp [go_sem]); all_goals rfl) : Q P G f hpc argsc K x := by
  subst e1; subst e5; subst e6
  exact CQ.up ((gcall_auto h e2 e3 e4).mono fun r1 hp1 ⟨r2, hp2, ⟨e1, e2⟩, e3, e4⟩ => by subst e1; subst e2; exact ⟨e3, e4⟩) hk
end

/-! ### a function's code, found by itself -/
structure CC (f : Func) (c : ACode) (rs : List ResultVar) : Prop where
  ok : f.body.bind (comp f.ntmps) = some c
  hr : f.results.toList = rs
/-- Operations in an order. -/
def ordOps (n : Nat) (ops : Array Oper) : List Nat → List AOp
  | [] => []
  | i :: r => match ops[i]? with
    | some o => match compOp n ops o with
      | some a => a :: ordOps n ops r
      | none => []
    | none => []
def ordAlts (n : Nat) (ops : Array Oper) : List (List Nat × List (Nat × Nat)) → List (List AOp × List (Nat × Nat))
  | [] => []
  | x :: r => (ordOps n ops x.1, x.2) :: ordAlts n ops r
def altsAt (i : Nat) : List (Nat × List (List Nat × List (Nat × Nat))) → List (List Nat × List (Nat × Nat))
  | [] => []
  | x :: r => if x.1 = i then x.2 else altsAt i r
/-- Code with the orders of its regions given. -/
def fillC (n : Nat) (D : List (Nat × List (List Nat × List (Nat × Nat)))) : Code → ACode
  | .skip => .skip
  | .region _ ops false => .reg ((compOps n ops ops.toList).getD [])
  | .region i ops true => .regD (ordAlts n ops (altsAt i D))
  | .seq a b => .seq (fillC n D a) (fillC n D b)
  | .cond c t e => .cond c (fillC n D t) (fillC n D e)
  | .block id c => .block id (fillC n D c)
  | .loop c => .loop (fillC n D c)
  | .exit id => .exit id
  | _ => .ret
theorem CC.of (f : Func) (D : List (Nat × List (List Nat × List (Nat × Nat)))) {b : Code} {n : Nat} {c : ACode} {rv : Array ResultVar} {rs : List ResultVar} (hb : f.body = some b := by rfl) (hn : f.ntmps = n := by rfl) (hv : f.results = rv := by rfl)
    (hc : fillC n D b = c := by (conv => lhs; simp [fillC, ordAlts, ordOps, altsAt, compOps, compOp, dstOk]); all_goals exact rfl)
    (hr : rv.toList = rs := by (conv => lhs; whnf); all_goals exact rfl) (ho : comp n b = some c := by kernel_rfl) : CC f c rs := ⟨by rw [hb, hn]; exact ho, by rw [hv]; exact hr⟩
theorem pcallc {P : Program} {G : Nat → AV} (hm : P.follows .mixedOrders = true) {f : Nat} {fn : Func} {c : ACode} {rs : List ResultVar} {args : List AV} {r : AV} (hf : P.funcs[f]? = some fn) (cc : CC fn c rs)
    (h : awp P 0 c (finP P rs r) ⟨enterF 0 args, G, []⟩) (hn : Nat.ble args.length fn.ntmps = true := by rfl) : PCall P G f args r := pcall hm hf cc.ok cc.hr (Nat.le_of_ble_eq_true hn) h
theorem gcallc {P : Program} {G : Nat → AV} (hm : P.follows .mixedOrders = true) {f k : Nat} {fn : Func} {c : ACode} {rs : List ResultVar} {hp hp' : Hp} {args : List AV} {r : AV} (hf : P.funcs[f]? = some fn) (cc : CC fn c rs)
    (h : awp P k c (finG P k rs r hp') ⟨enterF 0 args, G, hp⟩) (hn : Nat.ble args.length fn.ntmps = true := by rfl) : DetCall P G f k hp args r hp' := gcall hm hf cc.ok cc.hr (Nat.le_of_ble_eq_true hn) h
end Go.Proofs.AE

