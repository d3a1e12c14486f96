/- Texts joined. -/
import Derived.Test.YtpdcfljbabpakaaGreatDoorSk4
import Derived.MapKept
import Derived.KernelRfl
import Derived.Test.YtpdcfljbabpakaaGreatDoorProg
import Derived.IntWalk
import Derived.Lib.Strings
import Derived.Lib.Slices
import Derived.Lib.Walk
import Derived.Lib.Bytealg
set_option linter.unusedVariables false
set_option linter.unusedSimpArgs false
namespace Go.Proofs.AE
open Go Go.RowKit
attribute [go_sem] aop aopH aopJ exOp mapOp mpLen mpLook mpFind arjOpG hasArj arjOp arjNewG arjNew sliceSub srcJ narrowR thawR aopC aopL aopD aopDH stables pureOp heapOp callOf pickOf nilTest S.eval S.put getF cAV cV vC niceB bl binAV binV binI binS isShift eqCells unAV convAV rowsOf lenAV mkAV loadAV fieldAddrAV fieldAV intOfAV indexAddrAV indexAV boundAV sliceRows sliceAV minmaxI
  avC avCs cellsAV buildAV placesOf elemOk boxCells vsOf partRows srcRows isStrSh TI.isAgg thenA blockA finQ FinX retAV resVs resV enterF
  frz frz1 frF frAV frAVs frC frB arsOf arsAV arsCs opsOf aop1 BorK FrzK
  mpGet mpAdd mC mCs mAV mAVs mF mB mO mH mkρ idMp memB nodupB idB complB WA WA2 OA OA2 FinG finG frzOp nzAV nzC nzCs invρ invρ.go callρ arsAVs dropF renC renAV renAVs renO posOf sig mrg mergeH coeF coeH coeB
attribute [go_sem] Option.map_some Option.map_none List.map_cons List.map_nil List.length_cons List.length_nil List.getElem?_cons_zero List.getElem?_cons_succ List.getElem?_nil List.drop_succ_cons List.drop_zero List.drop_nil List.take_succ_cons List.take_zero List.take_nil
  List.nil_append List.cons_append List.append_nil List.set_cons_zero List.set_cons_succ List.isEmpty_cons List.isEmpty_nil
attribute [go_sem] subH subO nrmO nrmCs nrmC nrmAV nrmAVs inC inCs inAV inAVs inO inH callChk allLt
section
variable {P : Program} {k : Nat} {Q : Exit → S → Prop} {s : S}
@[go_sem ↓] theorem awp_reg' {ops : List AOp} : awp P k (.reg ops) Q s = aops P ops s (Q .normal) := rfl
@[go_sem ↓ low] theorem awp_regD' {al : List AOp} {ps : List (Nat × Nat)} : awp P k (.regD [(al, ps)]) Q s = aopsD P al [] s (fun h s' => stables P al (s :: h) ps ∧ Wk k s' (Q .normal) ⟨⟩) := by simp [awp, allAlts]
@[go_sem ↓] theorem awp_seq' {a b : ACode} : awp P k (.seq a b) Q s = awp P k a (thenA (awp P k b Q) Q) s := rfl
@[go_sem ↓] theorem aops_nil' {K : S → Prop} : aops P [] s K = K s := rfl
@[go_sem ↓] theorem aops_cons' {o : AOp} {os : List AOp} {K : S → Prop} : aops P (o :: os) s K = match o.g with
    | none => aop P o s fun s' => aops P os s' K
    | some (t, want) => match getF s.fr t with
      | .one (.v (.lit (.bool b))) => Cnd b want (s.put (some t) (bl want)) ((s.put (some t) (bl (!want))).put o.dst (.tup [])) (fun s => aop P o s fun s' => aops P os s' K) (fun s => aops P os s K) ⟨⟩ ⟨⟩
      | .tup [] => aops P os (s.put o.dst (.tup [])) K
      | _ => False := rfl
@[go_sem ↓] theorem aopsD_nil' {h : List S} {K : List S → S → Prop} : aopsD P [] h s K = K h s := rfl
@[go_sem ↓] theorem aopsD_cons' {o : AOp} {os : List AOp} {h : List S} {K : List S → S → Prop} : aopsD P (o :: os) h s K = match o.g with
    | none => aopD P o s fun s' => aopsD P os (h ++ [s']) s' K
    | some (t, want) => match getF s.fr t with
      | .one (.v (.lit (.bool b))) => Cnd b want (s.put (some t) (bl want)) ((s.put (some t) (bl (!want))).put o.dst (.tup [])) (fun s => aopD P o s fun s' => aopsD P os (h ++ [s']) s' K) (fun s => aopsD P os (h ++ [s]) s K) ⟨⟩ ⟨⟩
      | .tup [] => aopsD P os (h ++ [s.put o.dst (.tup [])]) (s.put o.dst (.tup [])) K
      | _ => False := rfl
@[go_sem ↓] theorem allAlts_nil' {K : S → Prop} : allAlts P s K [] = True := rfl
@[go_sem ↓ low] theorem allAlts_cons' {al : List AOp} {ps : List (Nat × Nat)} {r : List (List AOp × List (Nat × Nat))} {K : S → Prop} : allAlts P s K ((al, ps) :: r) = (aopsD P al [] s (fun h s' => stables P al (s :: h) ps ∧ K s') ∧ allAlts P s K r) := rfl
def aopsE (P : Program) : List AOp → S → (S → Prop) → Prop
  | [], s, K => K s
  | o :: os, s, K =>
    match o.g with
    | none => aopD P o s fun s' => aopsE P os s' K
    | some (t, want) => match getF s.fr t with
      | .one (.v (.lit (.bool b))) => Cnd b want (s.put (some t) (bl want)) ((s.put (some t) (bl (!want))).put o.dst (.tup [])) (fun s => aopD P o s fun s' => aopsE P os s' K) (fun s => aopsE P os s K) ⟨⟩ ⟨⟩
      | .tup [] => aopsE P os (s.put o.dst (.tup [])) K
      | _ => False
theorem aopsE_eq : ∀ (l : List AOp) (h : List S) (s : S) (K : S → Prop), aopsD P l h s (fun _ s' => K s') = aopsE P l s K
  | [], _, _, _ => rfl
  | o :: os, h, s, K => by
    have ih : ∀ h s, aopsD P os h s (fun _ s' => K s') = aopsE P os s K := fun h s => aopsE_eq os h s K
    have hA : (fun s => aopD P o s fun s' => aopsD P os (h ++ [s']) s' fun _ s' => K s') = (fun s => aopD P o s fun s' => aopsE P os s' K) := by funext s; simp only [ih]
    have hB : (fun s => aopsD P os (h ++ [s]) s fun _ s' => K s') = (fun s => aopsE P os s K) := by funext s; simp only [ih]
    unfold aopsD aopsE
    rw [hA, hB]
    simp only [ih]
    rfl
@[go_sem ↓] theorem aopsE_nil' {K : S → Prop} : aopsE P [] s K = K s := rfl
@[go_sem ↓] theorem aopsE_cons' {o : AOp} {os : List AOp} {K : S → Prop} : aopsE P (o :: os) s K = match o.g with
    | none => aopD P o s fun s' => aopsE P os s' K
    | some (t, want) => match getF s.fr t with
      | .one (.v (.lit (.bool b))) => Cnd b want (s.put (some t) (bl want)) ((s.put (some t) (bl (!want))).put o.dst (.tup [])) (fun s => aopD P o s fun s' => aopsE P os s' K) (fun s => aopsE P os s K) ⟨⟩ ⟨⟩
      | .tup [] => aopsE P os (s.put o.dst (.tup [])) K
      | _ => False := rfl
theorem aopsE_true {al : List AOp} {h : List S} {K : S → Prop} : aopsD P al h s (fun h s' => stables P al (s :: h) [] ∧ K s') = aopsE P al s K := by
  rw [← aopsE_eq al h]
  congr 1
  funext h s'
  simp [stables]
@[go_sem ↓] theorem awp_regE' {al : List AOp} : awp P k (.regD [(al, [])]) Q s = aopsE P al s (fun s' => Wk k s' (Q .normal) ⟨⟩) := by simp only [awp, allAlts, and_true]; exact aopsE_true
@[go_sem ↓] theorem allAlts_consE' {al : List AOp} {K : S → Prop} {r : List (List AOp × List (Nat × Nat))} : allAlts P s K ((al, []) :: r) = (aopsE P al s K ∧ allAlts P s K r) := by simp only [allAlts]; rw [aopsE_true]
@[go_sem ↓] theorem awp_skip' : awp P k .skip Q s = Q .normal s := rfl
@[go_sem ↓] theorem awp_ret' : awp P k .ret Q s = Q .ret s := rfl
@[go_sem ↓] theorem awp_exit' {id : Nat} : awp P k (.exit id) Q s = Q (.exit id) s := rfl
@[go_sem ↓] theorem awp_block' {id : Nat} {c : ACode} : awp P k (.block id c) Q s = awp P k c (blockA id Q) s := rfl
@[go_sem ↓] theorem awp_cond' {c : Operand} {t e : ACode} : awp P k (.cond c t e) Q s = match s.eval c with
    | .one (.v (.lit (.bool b))) => Cnd b true s s (awp P k t Q) (awp P k e Q) ⟨⟩ ⟨⟩
    | _ => False := rfl
theorem pcall_of (hm : P.follows .mixedOrders = true) {G : Nat → AV} {f : Nat} {fn : Func} {ac : ACode} {args : List AV} {r : AV} {rs : List ResultVar} (hf : P.funcs[f]? = some fn) (hc : fn.body.bind (comp fn.ntmps) = some ac) (hrs : fn.results.toList = rs) (hn : args.length ≤ fn.ntmps)
    (h : awp P 0 ac (finQ P 0 rs fun r' hp' => hp' = [] ∧ r' = r) ⟨enterF 0 args, G, []⟩) : PCall P G f args r := by
  obtain ⟨c, hb, hc⟩ := Option.bind_eq_some_iff.1 hc
  subst hrs
  exact acall_of hm hf hb hc hn h
theorem out_plain {hp : Hp} {r0 r : AV} {F : List Nat} (h : coeAV hp F [] r r0) : Out 0 hp r0 [] r :=
  out_of F [] rfl .nil (fun _ _ h => by cases h) (fun i h => by omega) h trivial
attribute [go_sem] coeAV coeAVs coeC coeCs
end
end Go.Proofs.AE
set_option linter.unusedVariables false
set_option linter.unusedSimpArgs false
namespace Go.Proofs.AE
open Go Go.RowKit
section
variable {P : Program} {G : Nat → AV}
@[go_sem ↓] theorem Cnd_tt {s s' : S} {A B : S → Prop} {a : Held A} {b : Held B} : Cnd true true s s' A B a b = A s := propext ⟨fun h => h.1 rfl, fun h => ⟨fun _ => h, nofun⟩⟩
@[go_sem ↓] theorem Cnd_ff {s s' : S} {A B : S → Prop} {a : Held A} {b : Held B} : Cnd false false s s' A B a b = A s := propext ⟨fun h => h.1 rfl, fun h => ⟨fun _ => h, nofun⟩⟩
@[go_sem ↓] theorem Cnd_tf {s s' : S} {A B : S → Prop} {a : Held A} {b : Held B} : Cnd true false s s' A B a b = B s' := propext ⟨fun h => h.2 rfl, fun h => ⟨nofun, fun _ => h⟩⟩
@[go_sem ↓] theorem Cnd_ft {s s' : S} {A B : S → Prop} {a : Held A} {b : Held B} : Cnd false true s s' A B a b = B s' := propext ⟨fun h => h.2 rfl, fun h => ⟨nofun, fun _ => h⟩⟩
theorem bytes_beq' (a b : ByteArray) : (a == b) = decide (a = b) := by
  rw [Bool.eq_iff_iff, decide_eq_true_iff]
  exact Go.MapKept.bytes_beq a b
attribute [go_sem] bytes_beq'
theorem Cnd.intro {b want : Bool} {s s' : S} {A B : S → Prop} {a : Held A} {c : Held B} (h1 : b = want → A s) (h2 : b = !want → B s') : Cnd b want s s' A B a c := ⟨h1, h2⟩
theorem PCall.k {f : Nat} {hp : Hp} {args args' : List AV} {r : AV} {K : AV → Hp → Prop} (h : PCall P G f args' r) (hc : coeAVs hp [] [] args' args) (hk : K r hp) {x : Held K} : CallK P G f hp args K x :=
  (h.at hc).mono fun r' hp' ⟨h1, h2⟩ => by subst h1; subst h2; exact hk
theorem PCall.d {f : Nat} {hp : Hp} {args args' : List AV} {r : AV} {K : AV → Hp → Prop} (h : PCall P G f args' r) (hc : coeAVs hp [] [] args' args) (hk : K r hp) {x : Held K} : DCall P G f hp args K x :=
  ⟨r, hp, (h.at hc).mono fun r' hp' ⟨h1, h2⟩ => ⟨h2, h1⟩, hk⟩
theorem PCall.db {f : Nat} {hp : Hp} {args args' : List AV} {r : AV} {K : AV → Hp → Prop} (h : PCall P G f args' r) (hf : flatAV r = true) (hc : coeAVs hp (List.range hp.length) [] args' args) (hk : K r hp) {x : Held K} : DCall P G f hp args K x :=
  ⟨r, hp, (h.borrow _ hf hc).mono fun r' hp' ⟨h1, h2⟩ => ⟨h2, h1⟩, hk⟩
theorem Wk.refl {k : Nat} {s : S} {K : S → Prop} {x : Held K} (h : K s) : Wk k s K x := ⟨s, Weak.refl k s, h⟩
theorem PCall.kf {f : Nat} {hp : Hp} {args : List AV} {r : AV} {K : AV → Hp → Prop} (h : PCall P G f args r) (hi : idAVs args = true) (hk : K r hp) {x : Held K} : CallK P G f hp args K x := h.k (idAVs_coe hi) hk
def FinP (P : Program) (rs : List ResultVar) (R : AV) (s : S) : Prop :=
  match retAV P s rs with
  | some r0 => coeAV s.hp (List.range s.hp.length) [] R r0
  | none => False
def finP (P : Program) (rs : List ResultVar) (R : AV) : Exit → S → Prop
  | .normal, s | .ret, s => FinP P rs R s
  | _, _ => False
theorem FinP.fin {rs : List ResultVar} {R : AV} {s : S} (h : FinP P rs R s) : FinX P 0 rs (fun r' hp' => hp' = [] ∧ r' = R) s := by
  unfold FinP at h
  unfold FinX
  split at h
  · rename_i r0 hr
    rw [hr]
    exact ⟨R, [], out_plain h, rfl, rfl⟩
  · exact h.elim
theorem aop1_mono {o : AOp} {s : S} {K K' : S → Prop} (hk : ∀ s, K s → K' s) (h : aop1 P o s K) : aop1 P o s K' := by
  unfold aop1 at h ⊢
  split at h
  · exact ⟨h.1, hk _ h.2⟩
  · split at h
    · exact ⟨h.1, hk _ h.2⟩
    · exact h
theorem aop_mono {o : AOp} {s : S} {K K' : S → Prop} (hk : ∀ s, K s → K' s) (h : aop P o s K) : aop P o s K' := by
  unfold aop aopH aopJ aopC aopL at h ⊢
  split at h
  · exact ⟨h.1, hk _ h.2⟩
  · split at h
    · exact ⟨h.1, hk _ h.2⟩
    · split at h
      · exact ⟨h.1, hk _ h.2⟩
      split at h
      · exact ⟨h.1, fun c h1 h2 => hk _ (h.2 c h1 h2)⟩
      split at h
      · refine ⟨h.1, ?_⟩
        rcases h.2 with h2 | h2 | h2
        · exact .inl (ACall.mono h2 fun _ _ => hk _)
        · refine .inr (.inl ?_)
          unfold BorK at h2 ⊢
          split at h2
          · obtain ⟨h3, r, h4, h5, h6, h7⟩ := h2
            exact ⟨h3, r, h4, h5, hk _ h6, h7⟩
          · exact h2
        · refine .inr (.inr ?_)
          unfold FrzK at h2 ⊢
          split at h2
          · exact ⟨h2.1, ACall.mono h2.2 fun _ _ => hk _⟩
          · exact h2
      · split at h
        · exact ⟨fun e => hk _ (h.1 e), fun e => hk _ (h.2 e)⟩
        · split at h
          · exact fun q hq => hk _ (h q hq)
          · exact aop1_mono hk h
theorem aops_mono {K K' : S → Prop} (hk : ∀ s, K s → K' s) : ∀ {l : List AOp} {s : S}, aops P l s K → aops P l s K'
  | [], s, h => hk s h
  | o :: l, s, h => by
    unfold aops at h ⊢
    split at h
    · exact aop_mono (fun s => aops_mono hk) h
    · split at h
      · exact ⟨fun e => aop_mono (fun s => aops_mono hk) (h.1 e), fun e => aops_mono hk (h.2 e)⟩
      · exact aops_mono hk h
      · exact h
theorem aopD_mono {o : AOp} {s : S} {K K' : S → Prop} (hk : ∀ s, K s → K' s) (h : aopD P o s K) : aopD P o s K' := by
  unfold aopD aopDH at h ⊢
  split at h
  · exact ⟨h.1, hk _ h.2⟩
  · split at h
    · exact ⟨h.1, hk _ h.2⟩
    · split at h
      · exact ⟨h.1, hk _ h.2⟩
      split at h
      · obtain ⟨h1, r, hp', h2, h3⟩ := h
        exact ⟨h1, r, hp', h2, hk _ h3⟩
      · split at h
        · exact ⟨fun e => hk _ (h.1 e), fun e => hk _ (h.2 e)⟩
        · split at h
          · exact ⟨h.1, hk _ h.2⟩
          · exact h
theorem aopsD_mono : ∀ {l : List AOp} {hs : List S} {s : S} {K K' : List S → S → Prop}, (∀ h s, K h s → K' h s) → aopsD P l hs s K → aopsD P l hs s K'
  | [], hs, s, _, _, hk, h => hk hs s h
  | o :: l, hs, s, _, _, hk, h => by
    unfold aopsD at h ⊢
    split at h
    · exact aopD_mono (fun s => aopsD_mono hk) h
    · split at h
      · exact ⟨fun e => aopD_mono (fun s => aopsD_mono hk) (h.1 e), fun e => aopsD_mono hk (h.2 e)⟩
      · exact aopsD_mono hk h
      · exact h
theorem allAlts_mono {s : S} {K K' : S → Prop} (hk : ∀ s, K s → K' s) : ∀ {l : List (List AOp × List (Nat × Nat))}, allAlts P s K l → allAlts P s K' l
  | [], _ => trivial
  | (_, _) :: _, h => ⟨aopsD_mono (fun _ _ ⟨h1, h2⟩ => ⟨h1, hk _ h2⟩) h.1, allAlts_mono hk h.2⟩
theorem awp_mono {k : Nat} : ∀ {c : ACode} {Q Q' : Exit → S → Prop} {s : S}, (∀ e s, Q e s → Q' e s) → awp P k c Q s → awp P k c Q' s
  | .skip, _, _, _, hq, h => hq _ _ h
  | .reg ops, _, _, _, hq, h => aops_mono (hq .normal) h
  | .regD alts, _, _, _, hq, h => allAlts_mono (fun _ ⟨s', h1, h2⟩ => ⟨s', h1, hq .normal s' h2⟩) h
  | .seq a b, Q, Q', s, hq, h => by
    refine awp_mono (c := a) (fun e s he => ?_) h
    cases e with
    | normal => exact awp_mono (c := b) hq he
    | _ => exact hq _ _ he
  | .cond c t e, Q, Q', s, hq, h => by
    simp only [awp] at h ⊢
    split at h
    · exact ⟨fun x => awp_mono hq (h.1 x), fun x => awp_mono hq (h.2 x)⟩
    · exact h
  | .block id c, Q, Q', s, hq, h => by
    refine awp_mono (c := c) (fun e s he => ?_) h
    cases e with
    | exit id' => simp only [blockA] at he ⊢; split at he <;> (rename_i hid; simp [hid]; exact hq _ _ he)
    | _ => exact hq _ _ he
  | .loop c, Q, Q', s, hq, h => by
    obtain ⟨I, m, h1, h2⟩ := h
    refine ⟨I, m, h1, fun s hs => awp_mono (c := c) (fun e s' he => ?_) (h2 s hs)⟩
    cases e with
    | normal => exact he
    | _ => exact hq _ _ he
  | .exit id, _, _, _, hq, h => hq _ _ h
  | .ret, _, _, _, hq, h => hq _ _ h
theorem pcall (hm : P.follows .mixedOrders = true) {f : Nat} {fn : Func} {ac : ACode} {args : List AV} {r : AV} {rs : List ResultVar} (hf : P.funcs[f]? = some fn) (hc : fn.body.bind (comp fn.ntmps) = some ac) (hrs : fn.results.toList = rs) (hn : args.length ≤ fn.ntmps)
    (h : awp P 0 ac (finP P rs r) ⟨enterF 0 args, G, []⟩) : PCall P G f args r := by
  refine pcall_of hm hf hc hrs hn (awp_mono (fun e s he => ?_) h)
  cases e with
  | normal => exact FinP.fin he
  | ret => exact FinP.fin he
  | _ => exact he
theorem FinG.fin {k : Nat} {rs : List ResultVar} {R : AV} {hp' : Hp} {s : S} (h : FinG P k rs R hp' s) : FinX P k rs (fun r1 hp1 => r1 = R ∧ hp1 = hp') s := by
  unfold FinG at h
  unfold FinX
  cases hret : retAV P s rs with
  | none => rw [hret] at h; exact h.elim
  | some r0 =>
    rw [hret] at h
    show ∃ r hp1, Out k s.hp r0 hp1 r ∧ r = R ∧ hp1 = hp'
    cases hn : narrowR s.hp r0 with
    | some q =>
      obtain ⟨p, hp1, r1⟩ := q
      simp only [hn] at h
      refine ⟨R, hp', fun w ok μ x hr1 hv => ?_, rfl, rfl⟩
      obtain ⟨μ1, s1, hv1⟩ := narrow_step hr1 hv hn h.1
      obtain ⟨ok2, μ2, f2, hv2⟩ := out_auto h.2 w ok μ1 x s1.hr hv1
      exact ⟨ok2, μ2, s1.far.trans f2, hv2⟩
    | none =>
      simp only [hn] at h
      cases ht : thawR s.hp r0 R hp' with
      | some q =>
        obtain ⟨p, hp1, r1⟩ := q
        simp only [ht] at h
        refine ⟨R, hp', fun w ok μ x hr1 hv => ?_, rfl, rfl⟩
        obtain ⟨μ1, s1, hv1⟩ := thaw_step hr1 hv ht h.1
        obtain ⟨ok2, μ2, f2, hv2⟩ := out_auto h.2 w ok μ1 x s1.hr hv1
        exact ⟨ok2, μ2, s1.far.trans f2, hv2⟩
      | none =>
        simp only [ht] at h
        exact ⟨R, hp', out_auto h, rfl, rfl⟩
theorem HR.arj {w : World} {ok : Nat → Prop} {μ : List MB} {e : TypeId} {k : Nat} {rows : List (List V)} {hp : Hp} (hk : 0 < k) (hr : HR w ok μ (some (.arr e k rows) :: hp)) :
    ∃ c x, rows.length ≤ c ∧ c ≤ maxLen ∧ UL k rows ∧ HR w ok μ (some (.arj e k c rows) :: hp) ∧ μ[0]? = some (.arr x) ∧ SubOf k 0 rows.length c x x := by
  obtain ⟨m, hm, hb⟩ := hr.rel 0 _ rfl
  cases m with
  | box => exact hb.elim
  | arr x =>
  obtain ⟨xs, hown, hall, hul⟩ := hb
  have key : ∃ c, rows.length ≤ c ∧ c ≤ maxLen ∧ BRel w ok μ (.arj e k c rows) (.arr x) ∧ SubOf k 0 rows.length c x x := by
    rcases hown.2 with ⟨rfl, hn⟩ | ⟨g, cap, cur, rfl, _, hg, hnc, hcm, hcs, htake⟩
    · exact ⟨0, by omega, Nat.zero_le _, ⟨hk, hul, .inl ⟨rfl, rfl, List.eq_nil_of_length_eq_zero hn⟩⟩, .nil hn rfl⟩
    · refine ⟨cap, hnc, hcm, ⟨hk, hul, .inr ⟨g, rows.length, cur, rfl, hg, hnc, hcm, hcs, by rw [htake]; exact hall⟩⟩, ?_⟩
      have := SubOf.at (k := k) (off := 0) (len := rows.length) (g := g) (n := rows.length) (c := cap) (o := 0) (fun _ => by simp)
      simpa using this
  obtain ⟨c, h1, h2, h3, h4⟩ := key
  have old : ∀ (i : Nat) b, (some (Blk.arj e k c rows) :: hp)[i]? = some (some b) → ∃ b', (some (Blk.arr e k rows) :: hp)[i]? = some (some b') := by
    intro i b h
    cases i with
    | zero => exact ⟨_, rfl⟩
    | succ i => exact ⟨b, h⟩
  refine ⟨c, x, h1, h2, hul, ⟨hr.len, ?_, ?_, ?_⟩, hm, h4⟩
  · intro i b hb
    cases i with
    | zero => cases hb; exact ⟨_, hm, h3⟩
    | succ i => exact hr.rel (i + 1) b hb
  · intro i j b c m n k hij hb hc
    obtain ⟨b', hb'⟩ := old i b hb
    obtain ⟨c', hc'⟩ := old j c hc
    exact hr.inj i j b' c' m n k hij hb' hc'
  · intro k hk
    refine ⟨(hr.okn k hk).1, fun i b m hb => ?_⟩
    obtain ⟨b', hb'⟩ := old i b hb
    exact (hr.okn k hk).2 i b' m hb'
theorem ownL_arj {μ : List MB} {e : TypeId} {k c : Nat} {rows : List (List V)} {hp : Hp} {b : Nat} : OwnL (some (.arj e k c rows) :: hp) μ b ↔ OwnL (some (.arr e k rows) :: hp) μ b := by
  constructor <;> rintro ⟨i, blk, m, h1, h2, h3⟩ <;> (cases i with
    | zero => exact ⟨0, _, m, rfl, h2, h3⟩
    | succ i => exact ⟨i + 1, blk, m, h1, h2, h3⟩)
theorem DetCall.arj {f : Nat} {e : TypeId} {k : Nat} {rows : List (List V)} {hp hp' : Hp} {rest : List AV} {r : AV} (hk : 0 < k)
    (h : ∀ c, rows.length ≤ c → c ≤ maxLen → UL k rows → DetCall P G f 0 (some (.arj e k c rows) :: hp) (.one (.sub 0 k 0 rows.length c) :: rest) r hp') : DetCall P G f 0 (some (.arr e k rows) :: hp) (.one (.ar 0) :: rest) r hp' := by
  intro w ok μ xs hr hg hargs
  obtain ⟨c, x, h1, h2, hul, hr', hμ, hs⟩ := hr.arj hk
  cases hargs with | cons ha ht =>
  cases ha with | one hc => cases hc with | ar hμ' _ =>
  rw [hμ] at hμ'; cases hμ'
  refine (h c h1 h2 hul w ok μ _ hr' hg (.cons (.one (.sub _ _ _ _ hμ hs)) ht)).mono ?_
  rintro e' w' ⟨y, r', hp1, ok', μ', rfl, hf, hrel, hk'⟩
  refine ⟨y, r', hp1, ok', μ', rfl, ⟨hf.hr, hf.os, hf.tape, hf.output, hf.size, fun b hb hn => hf.frame b hb (fun ho => hn (ownL_arj.1 ho)), hf.oksub, ?_, ?_, hf.ext⟩, hrel, hk'⟩
  · intro b hb
    rcases hf.okfrom b hb with h3 | h3 | h3
    · exact .inl h3
    · exact .inr (.inl h3)
    · exact .inr (.inr (ownL_arj.1 h3))
  · intro b hb
    rcases hf.ownfrom b hb with h3 | h3
    · exact .inl h3
    · exact .inr (ownL_arj.1 h3)
theorem HR.arjAt {w : World} {ok : Nat → Prop} {μ : List MB} {e : TypeId} {k i : Nat} {rows : List (List V)} {hp : Hp} (hk : 0 < k) (hi : hp[i]? = some (some (.arr e k rows))) (hr : HR w ok μ hp) :
    ∃ c x, rows.length ≤ c ∧ c ≤ maxLen ∧ UL k rows ∧ HR w ok μ (hp.set i (some (.arj e k c rows))) ∧ μ[i]? = some (.arr x) ∧ SubOf k 0 rows.length c x x := by
  obtain ⟨m, hm, hb⟩ := hr.rel i _ hi
  cases m with
  | box => exact hb.elim
  | arr x =>
  obtain ⟨xs, hown, hall, hul⟩ := hb
  have key : ∃ c, rows.length ≤ c ∧ c ≤ maxLen ∧ BRel w ok μ (.arj e k c rows) (.arr x) ∧ SubOf k 0 rows.length c x x := by
    rcases hown.2 with ⟨rfl, hn⟩ | ⟨g, cap, cur, rfl, _, hg, hnc, hcm, hcs, htake⟩
    · exact ⟨0, by omega, Nat.zero_le _, ⟨hk, hul, .inl ⟨rfl, rfl, List.eq_nil_of_length_eq_zero hn⟩⟩, .nil hn rfl⟩
    · refine ⟨cap, hnc, hcm, ⟨hk, hul, .inr ⟨g, rows.length, cur, rfl, hg, hnc, hcm, hcs, by rw [htake]; exact hall⟩⟩, ?_⟩
      have := SubOf.at (k := k) (off := 0) (len := rows.length) (g := g) (n := rows.length) (c := cap) (o := 0) (fun _ => by simp)
      simpa using this
  obtain ⟨c, h1, h2, h3, h4⟩ := key
  have old : ∀ (j : Nat) b, (hp.set i (some (Blk.arj e k c rows)))[j]? = some (some b) → ∃ b', hp[j]? = some (some b') := by
    intro j b h
    rcases getElem?_set_cases h with ⟨rfl, _⟩ | ⟨_, h'⟩
    · exact ⟨_, hi⟩
    · exact ⟨b, h'⟩
  refine ⟨c, x, h1, h2, hul, ⟨by simp [hr.len], ?_, ?_, ?_⟩, hm, h4⟩
  · intro j b hb
    rcases getElem?_set_cases hb with ⟨rfl, h'⟩ | ⟨_, h'⟩
    · cases h'; exact ⟨_, hm, h3⟩
    · exact hr.rel j b h'
  · intro j1 j2 b c m n k hij hb hc
    obtain ⟨b', hb'⟩ := old j1 b hb
    obtain ⟨c', hc'⟩ := old j2 c hc
    exact hr.inj j1 j2 b' c' m n k hij hb' hc'
  · intro k hk
    refine ⟨(hr.okn k hk).1, fun j b m hb => ?_⟩
    obtain ⟨b', hb'⟩ := old j b hb
    exact (hr.okn k hk).2 j b' m hb'
theorem ownL_arjAt {μ : List MB} {e : TypeId} {k c i : Nat} {rows : List (List V)} {hp : Hp} {b : Nat} (hi : hp[i]? = some (some (.arr e k rows))) : OwnL (hp.set i (some (.arj e k c rows))) μ b ↔ OwnL hp μ b := by
  constructor <;> rintro ⟨j, blk, m, h1, h2, h3⟩
  · rcases getElem?_set_cases h1 with ⟨rfl, _⟩ | ⟨_, h'⟩
    · exact ⟨j, _, m, hi, h2, h3⟩
    · exact ⟨j, blk, m, h', h2, h3⟩
  · by_cases hj : i = j
    · subst hj
      exact ⟨i, .arj e k c rows, m, by rw [List.getElem?_set_self (lt_of_getElem? hi)], h2, h3⟩
    · exact ⟨j, blk, m, by rw [List.getElem?_set_ne hj]; exact h1, h2, h3⟩
theorem DetCall.arjAt {f kk i : Nat} {e : TypeId} {k : Nat} {rows : List (List V)} {hp hp' : Hp} {rest : List AV} {r : AV} (hk : 0 < k) (hi : hp[i]? = some (some (.arr e k rows)))
    (h : ∀ c, rows.length ≤ c → c ≤ maxLen → UL k rows → DetCall P G f kk (hp.set i (some (.arj e k c rows))) (.one (.sub i k 0 rows.length c) :: rest) r hp') : DetCall P G f kk hp (.one (.ar i) :: rest) r hp' := by
  intro w ok μ xs hr hg hargs
  obtain ⟨c, x, h1, h2, hul, hr', hμ, hs⟩ := hr.arjAt hk hi
  cases hargs with | cons ha ht =>
  cases ha with | one hc => cases hc with | ar hμ' _ =>
  rw [hμ] at hμ'; cases hμ'
  refine (h c h1 h2 hul w ok μ _ hr' hg (.cons (.one (.sub _ _ _ _ hμ hs)) ht)).mono ?_
  rintro e' w' ⟨y, r', hp1, ok', μ', rfl, hf, hrel, hk'⟩
  refine ⟨y, r', hp1, ok', μ', rfl, ⟨hf.hr, hf.os, hf.tape, hf.output, hf.size, fun b hb hn => hf.frame b hb (fun ho => hn ((ownL_arjAt hi).1 ho)), hf.oksub, ?_, ?_, hf.ext⟩, hrel, hk'⟩
  · intro b hb
    rcases hf.okfrom b hb with h3 | h3 | h3
    · exact .inl h3
    · exact .inr (.inl h3)
    · exact .inr (.inr ((ownL_arjAt hi).1 h3))
  · intro b hb
    rcases hf.ownfrom b hb with h3 | h3
    · exact .inl h3
    · exact .inr ((ownL_arjAt hi).1 h3)
theorem gcall (hm : P.follows .mixedOrders = true) {f k : Nat} {fn : Func} {ac : ACode} {hp hp' : Hp} {args : List AV} {r : AV} {rs : List ResultVar} (hf : P.funcs[f]? = some fn) (hc : fn.body.bind (comp fn.ntmps) = some ac) (hrs : fn.results.toList = rs) (hn : args.length ≤ fn.ntmps)
    (h : awp P k ac (finG P k rs r hp') ⟨enterF 0 args, G, hp⟩) : DetCall P G f k hp args r hp' := by
  obtain ⟨c, hb, hc⟩ := Option.bind_eq_some_iff.1 hc
  subst hrs
  refine gcall_of hm hf hb hc hn (awp_mono (fun e s he => ?_) h)
  cases e with
  | normal => exact FinG.fin he
  | ret => exact FinG.fin he
  | _ => exact he
class CQ (Q : Program → (Nat → AV) → Nat → Hp → List AV → (K : AV → Hp → Prop) → Held K → Prop) : Prop where
  up : ∀ {P : Program} {G : Nat → AV} {f : Nat} {hp hp' : Hp} {args : List AV} {r : AV} {K : AV → Hp → Prop} {x : Held K}, (ACall P G f hp args fun r' hp'' => r' = r ∧ hp'' = hp') → K r hp' → Q P G f hp args K x
instance : CQ CallK := ⟨fun h hk => h.mono fun r' hp' ⟨h1, h2⟩ => by subst h1; subst h2; exact hk⟩
instance : CQ DCall := ⟨fun h hk => ⟨_, _, h, hk⟩⟩
theorem qkc {f : Nat} {args args' : List AV} {r : AV} (h : PCall P G f args' r) (e : (nrmAVs [] args, inAVs [] args) = (args', true)) : ∀ hp, ACall P G f hp args fun r' hp'' => r' = r ∧ hp'' = hp := by
  have hn : nrmAVs [] args = args' := congrArg Prod.fst e
  have hi : inAVs [] args = true := congrArg Prod.snd e
  exact fun hp => (h.at (hn ▸ nrmAVs_coe hi)).mono fun r' hp' ⟨h1, h2⟩ => ⟨h2, h1⟩
theorem qcn {Q} [CQ Q] {f : Nat} {hp : Hp} {args : List AV} {r : AV} {K : AV → Hp → Prop} (h : ∀ hp, ACall P G f hp args fun r' hp'' => r' = r ∧ hp'' = hp) (hk : K r hp) {x : Held K} : Q P G f hp args K x := CQ.up (h hp) hk
theorem qcf {Q} [CQ Q] {f : Nat} {hp : Hp} {args : List AV} {r : AV} {K : AV → Hp → Prop} (h : PCall P G f args r) (hi : idAVs args = true) (hk : K r hp) {x : Held K} : Q P G f hp args K x :=
  CQ.up ((h.at (idAVs_coe hi)).mono fun r' hp' ⟨h1, h2⟩ => ⟨h2, h1⟩) hk
theorem qkz {f : Nat} {hp : Hp} {args args' : List AV} {r : AV} (h : PCall P G f args' r) (e : (nzAVs hp args, idAVs args') = (args', true)) : ACall P G f hp args fun r' hp'' => r' = r ∧ hp'' = dropF (arsAVs args) hp := by
  have hn : nzAVs hp args = args' := congrArg Prod.fst e
  have hi : idAVs args' = true := congrArg Prod.snd e
  exact h.frz hn hi
attribute [go_sem] finP FinP idAVs idAV idC flatAV flatAVs flatC
end
end Go.Proofs.AE
set_option linter.unusedVariables false
set_option linter.unusedSimpArgs false
namespace Go.Proofs.AE
open Go Go.RowKit
section
variable {P : Program} {G : Nat → AV}
theorem Cn {b want : Bool} {s s' : S} {A B : S → Prop} {a : Held A} {c : Held B} (h1 : b = want → A s) (h2 : b = !want → B s') : Cnd b want s s' A B a c := ⟨h1, h2⟩
theorem wR {k : Nat} {s : S} {K : S → Prop} {x : Held K} (h : K s) : Wk k s K x := Wk.refl h
theorem wr (k : Nat) (s : S) : Weak k s s := Weak.refl k s
theorem wa {k : Nat} {s s' : S} (h : WA k s s') : Weak k s s' := weak_auto h
theorem q {o : AOp} {s : S} {f : Nat} {args args' : List AV} {r : AV} {K : S → Prop} {x : Held K} (h : PCall P s.gl f args' r) (hk : K ({ s with hp := s.hp }.put o.dst r))
    (e : (nrmAVs [] args, inAVs [] args) = (args', true) := by with_unfolding_all rfl) : CallZ P o s f args K x := CallZ.l (qcn (qkc h e) hk)
theorem qd {Q} [CQ Q] {f : Nat} {hp : Hp} {args args' : List AV} {r : AV} {K : AV → Hp → Prop} {x : Held K} (h : PCall P G f args' r) (hk : K r hp)
    (e : (nrmAVs [] args, inAVs [] args) = (args', true) := by with_unfolding_all rfl) : Q P G f hp args K x := qcn (qkc h e) hk
theorem q1 {o : AOp} {s : S} {f : Nat} {args : List AV} {r : AV} {K : S → Prop} {x : Held K} (h : PCall P s.gl f args r) (hk : K ({ s with hp := s.hp }.put o.dst r))
    (e : idAVs args = true := by with_unfolding_all rfl) : CallZ P o s f args K x := CallZ.l (qcf h e hk)
theorem q1d {Q} [CQ Q] {f : Nat} {hp : Hp} {args : List AV} {r : AV} {K : AV → Hp → Prop} {x : Held K} (h : PCall P G f args r) (hk : K r hp)
    (e : idAVs args = true := by with_unfolding_all rfl) : Q P G f hp args K x := qcf h e hk
theorem qz {f : Nat} {hp hp1 : Hp} {args args' : List AV} {r : AV} {K : AV → Hp → Prop} {x : Held K} (h : PCall P G f args' r) (hk : K r hp1)
    (e : (nzAVs hp args, idAVs args') = (args', true) := by with_unfolding_all rfl)
    (e1 : dropF (arsAVs args) hp = hp1 := by (try conv => lhs; simp -dsimp [go_sem]); all_goals rfl) : DCall P G f hp args K x := by
  subst e1; exact ⟨r, _, qkz h e, hk⟩
theorem qg {o : AOp} {s : S} {f k : Nat} {hp hp' hp1 : Hp} {args argsc : List AV} {r r1 : AV} {K : S → Prop} {x : Held K} {ρ : List Nat} (h : DetCall P s.gl f k hp args r hp') (hk : K ({ s with hp := hp1 }.put o.dst r1))
    (e1 : callρ s.hp hp args argsc = ρ := by (try conv => lhs; simp -dsimp [go_sem]); all_goals rfl)
    (e2 : subH s.hp ρ ρ = hp := by with_unfolding_all rfl)
    (e3 : nrmAVs ρ argsc = args := by with_unfolding_all rfl)
    (e4 : callChk s.hp ρ k argsc = true := by with_unfolding_all rfl)
    (e5 : renAV (sig ρ k s.hp.length) r = r1 := by (try conv => lhs; simp -dsimp [go_sem]); all_goals rfl)
    (e6 : mergeH s.hp ρ k hp' = hp1 := by (try conv => lhs; simp -dsimp [go_sem]); all_goals rfl) : CallZ P o s f argsc K x := by
  subst e1; subst e5; subst e6
  exact CallZ.l (CQ.up ((gcall_auto h e2 e3 e4).mono fun r1 hp1 ⟨r2, hp2, ⟨e1, e2⟩, e3, e4⟩ => by subst e1; subst e2; exact ⟨e3, e4⟩) hk)
theorem qgd {Q} [CQ Q] {f k : Nat} {hp hp' hp1 hpc : Hp} {args argsc : List AV} {r r1 : AV} {K : AV → Hp → Prop} {x : Held K} {ρ : List Nat} (h : DetCall P G f k hp args r hp') (hk : K r1 hp1)
    (e1 : callρ hpc hp args argsc = ρ := by (try conv => lhs; simp -dsimp [go_sem]); all_goals rfl)
    (e2 : subH hpc ρ ρ = hp := by with_unfolding_all rfl)
    (e3 : nrmAVs ρ argsc = args := by with_unfolding_all rfl)
    (e4 : callChk hpc ρ k argsc = true := by with_unfolding_all rfl)
    (e5 : renAV (sig ρ k hpc.length) r = r1 := by (try conv => lhs; simp -dsimp [go_sem]); all_goals rfl)
    (e6 : mergeH hpc ρ k hp' = hp1 := by (try conv => lhs; simp -dsimp [go_sem]); all_goals rfl) : Q P G f hpc argsc K x := by
  subst e1; subst e5; subst e6
  exact CQ.up ((gcall_auto h e2 e3 e4).mono fun r1 hp1 ⟨r2, hp2, ⟨e1, e2⟩, e3, e4⟩ => by subst e1; subst e2; exact ⟨e3, e4⟩) hk
end
structure CC (f : Func) (c : ACode) (rs : List ResultVar) : Prop where
  ok : f.body.bind (comp f.ntmps) = some c
  hr : f.results.toList = rs
def ordOps (n : Nat) (ops : Array Oper) : List Nat → List AOp
  | [] => []
  | i :: r => match ops[i]? with
    | some o => match compOp n ops o with
      | some a => a :: ordOps n ops r
      | none => []
    | none => []
def ordAlts (n : Nat) (ops : Array Oper) : List (List Nat × List (Nat × Nat)) → List (List AOp × List (Nat × Nat))
  | [] => []
  | x :: r => (ordOps n ops x.1, x.2) :: ordAlts n ops r
def altsAt (i : Nat) : List (Nat × List (List Nat × List (Nat × Nat))) → List (List Nat × List (Nat × Nat))
  | [] => []
  | x :: r => if x.1 = i then x.2 else altsAt i r
def fillC (n : Nat) (D : List (Nat × List (List Nat × List (Nat × Nat)))) : Code → ACode
  | .skip => .skip
  | .region _ ops false => .reg ((compOps n ops ops.toList).getD [])
  | .region i ops true => .regD (ordAlts n ops (altsAt i D))
  | .seq a b => .seq (fillC n D a) (fillC n D b)
  | .cond c t e => .cond c (fillC n D t) (fillC n D e)
  | .block id c => .block id (fillC n D c)
  | .loop c => .loop (fillC n D c)
  | .exit id => .exit id
  | _ => .ret
theorem CC.of (f : Func) (D : List (Nat × List (List Nat × List (Nat × Nat)))) {b : Code} {n : Nat} {c : ACode} {rv : Array ResultVar} {rs : List ResultVar} (hb : f.body = some b := by rfl) (hn : f.ntmps = n := by rfl) (hv : f.results = rv := by rfl)
    (hc : fillC n D b = c := by (conv => lhs; simp [fillC, ordAlts, ordOps, altsAt, compOps, compOp, dstOk]); all_goals exact rfl)
    (hr : rv.toList = rs := by (conv => lhs; whnf); all_goals exact rfl) (ho : comp n b = some c := by kernel_rfl) : CC f c rs := ⟨by rw [hb, hn]; exact ho, by rw [hv]; exact hr⟩
theorem pcallc {P : Program} {G : Nat → AV} (hm : P.follows .mixedOrders = true) {f : Nat} {fn : Func} {c : ACode} {rs : List ResultVar} {args : List AV} {r : AV} (hf : P.funcs[f]? = some fn) (cc : CC fn c rs)
    (h : awp P 0 c (finP P rs r) ⟨enterF 0 args, G, []⟩) (hn : Nat.ble args.length fn.ntmps = true := by rfl) : PCall P G f args r := pcall hm hf cc.ok cc.hr (Nat.le_of_ble_eq_true hn) h
theorem gcallc {P : Program} {G : Nat → AV} (hm : P.follows .mixedOrders = true) {f k : Nat} {fn : Func} {c : ACode} {rs : List ResultVar} {hp hp' : Hp} {args : List AV} {r : AV} (hf : P.funcs[f]? = some fn) (cc : CC fn c rs)
    (h : awp P k c (finG P k rs r hp') ⟨enterF 0 args, G, hp⟩) (hn : Nat.ble args.length fn.ntmps = true := by rfl) : DetCall P G f k hp args r hp' := gcall hm hf cc.ok cc.hr (Nat.le_of_ble_eq_true hn) h
end Go.Proofs.AE
set_option maxRecDepth 100000
set_option maxHeartbeats 8000000
namespace Go.Proofs.YtpdcfljbabpakaaGreatDoor
open Go Go.RowKit Go.Proofs.AE
@[go_sem] theorem ti1 : tiOf Tryz.prog 1 = some ⟨.other, 1, 8, [.lit .nilFunc], []⟩ := by kernel_rfl
@[go_sem] theorem ti3 : tiOf Tryz.prog 3 = some ⟨.int .i64, 1, 8, [.lit (.int .i64 0)], []⟩ := by kernel_rfl
@[go_sem] theorem ti4 : tiOf Tryz.prog 4 = some ⟨.bool, 1, 1, [.lit (.bool false)], []⟩ := by kernel_rfl
@[go_sem] theorem ti5 : tiOf Tryz.prog 5 = some ⟨.int .u8, 1, 1, [.lit (.int .u8 0)], []⟩ := by kernel_rfl
@[go_sem] theorem ti9 : tiOf Tryz.prog 9 = some ⟨.string, 1, 16, [.lit (.string ⟨#[]⟩)], []⟩ := by kernel_rfl
@[go_sem] theorem ti22 : tiOf Tryz.prog 22 = some ⟨.slice 81, 1, 24, [.sl []], []⟩ := by kernel_rfl
@[go_sem] theorem ti23 : tiOf Tryz.prog 23 = some ⟨.slice 119, 1, 24, [.sl []], []⟩ := by kernel_rfl
@[go_sem] theorem ti25 : tiOf Tryz.prog 25 = some ⟨.struct [(3, 0), (23, 1)], 2, 32, [.lit (.int .i64 0), .sl []], []⟩ := by kernel_rfl
@[go_sem] theorem ti26 : tiOf Tryz.prog 26 = some ⟨.slice 123, 1, 24, [.sl []], []⟩ := by kernel_rfl
@[go_sem] theorem ti28 : tiOf Tryz.prog 28 = some ⟨.struct [(25, 0), (3, 2), (26, 3)], 4, 64, [.lit (.int .i64 0), .sl [], .lit (.int .i64 0), .sl []], []⟩ := by kernel_rfl
@[go_sem] theorem ti30 : tiOf Tryz.prog 30 = some ⟨.struct [(3, 0), (3, 1), (28, 2)], 6, 80, [.lit (.int .i64 0), .lit (.int .i64 0), .lit (.int .i64 0), .sl [], .lit (.int .i64 0), .sl []], []⟩ := by kernel_rfl
@[go_sem] theorem ti32 : tiOf Tryz.prog 32 = some ⟨.int .i64, 1, 8, [.lit (.int .i64 0)], []⟩ := by kernel_rfl
@[go_sem] theorem ti37 : tiOf Tryz.prog 37 = some ⟨.struct [(3, 0), (9, 1), (9, 2), (9, 3), (3, 4)], 5, 64, [.lit (.int .i64 0), .lit (.string ⟨#[]⟩), .lit (.string ⟨#[]⟩), .lit (.string ⟨#[]⟩), .lit (.int .i64 0)], [.int .i64, .string, .string, .string, .int .i64]⟩ := by kernel_rfl
@[go_sem] theorem ti39 : tiOf Tryz.prog 39 = some ⟨.struct [(3, 0), (3, 1), (37, 2)], 7, 80, [.lit (.int .i64 0), .lit (.int .i64 0), .lit (.int .i64 0), .lit (.string ⟨#[]⟩), .lit (.string ⟨#[]⟩), .lit (.string ⟨#[]⟩), .lit (.int .i64 0)], [.int .i64, .int .i64, .int .i64, .string, .string, .string, .int .i64]⟩ := by kernel_rfl
@[go_sem] theorem ti41 : tiOf Tryz.prog 41 = some ⟨.struct [(3, 0), (3, 1), (4, 2), (39, 3)], 10, 104, [.lit (.int .i64 0), .lit (.int .i64 0), .lit (.bool false), .lit (.int .i64 0), .lit (.int .i64 0), .lit (.int .i64 0), .lit (.string ⟨#[]⟩), .lit (.string ⟨#[]⟩), .lit (.string ⟨#[]⟩), .lit (.int .i64 0)], [.int .i64, .int .i64, .bool, .int .i64, .int .i64, .int .i64, .string, .string, .string, .int .i64]⟩ := by kernel_rfl
@[go_sem] theorem ti43 : tiOf Tryz.prog 43 = some ⟨.struct [(3, 0), (3, 1), (3, 2), (3, 3), (41, 4), (30, 14)], 20, 216, [.lit (.int .i64 0), .lit (.int .i64 0), .lit (.int .i64 0), .lit (.int .i64 0), .lit (.int .i64 0), .lit (.int .i64 0), .lit (.bool false), .lit (.int .i64 0), .lit (.int .i64 0), .lit (.int .i64 0), .lit (.string ⟨#[]⟩), .lit (.string ⟨#[]⟩), .lit (.string ⟨#[]⟩), .lit (.int .i64 0), .lit (.int .i64 0), .lit (.int .i64 0), .lit (.int .i64 0), .sl [], .lit (.int .i64 0), .sl []], []⟩ := by kernel_rfl
@[go_sem] theorem ti45 : tiOf Tryz.prog 45 = some ⟨.slice 41, 1, 24, [.sl []], []⟩ := by kernel_rfl
@[go_sem] theorem ti47 : tiOf Tryz.prog 47 = some ⟨.struct [(3, 0), (3, 1), (45, 2)], 3, 40, [.lit (.int .i64 0), .lit (.int .i64 0), .sl []], []⟩ := by kernel_rfl
@[go_sem] theorem ti57 : tiOf Tryz.prog 57 = some ⟨.slice 5, 1, 24, [.sl []], []⟩ := by kernel_rfl
@[go_sem] theorem ti64 : tiOf Tryz.prog 64 = some ⟨.slice 92, 1, 24, [.sl []], []⟩ := by kernel_rfl
@[go_sem] theorem ti65 : tiOf Tryz.prog 65 = some ⟨.slice 43, 1, 24, [.sl []], []⟩ := by kernel_rfl
@[go_sem] theorem ti68 : tiOf Tryz.prog 68 = some ⟨.struct [(57, 0), (3, 1)], 2, 32, [.sl [], .lit (.int .i64 0)], []⟩ := by kernel_rfl
@[go_sem] theorem ti79 : tiOf Tryz.prog 79 = some ⟨.struct [(3, 0), (3, 1), (3, 2), (3, 3), (9, 4)], 5, 48, [.lit (.int .i64 0), .lit (.int .i64 0), .lit (.int .i64 0), .lit (.int .i64 0), .lit (.string ⟨#[]⟩)], [.int .i64, .int .i64, .int .i64, .int .i64, .string]⟩ := by kernel_rfl
@[go_sem] theorem ti81 : tiOf Tryz.prog 81 = some ⟨.struct [(3, 0), (3, 1), (3, 2), (79, 3)], 8, 72, [.lit (.int .i64 0), .lit (.int .i64 0), .lit (.int .i64 0), .lit (.int .i64 0), .lit (.int .i64 0), .lit (.int .i64 0), .lit (.int .i64 0), .lit (.string ⟨#[]⟩)], [.int .i64, .int .i64, .int .i64, .int .i64, .int .i64, .int .i64, .int .i64, .string]⟩ := by kernel_rfl
@[go_sem] theorem ti83 : tiOf Tryz.prog 83 = some ⟨.struct [(3, 0), (3, 1), (30, 2), (47, 8)], 11, 136, [.lit (.int .i64 0), .lit (.int .i64 0), .lit (.int .i64 0), .lit (.int .i64 0), .lit (.int .i64 0), .sl [], .lit (.int .i64 0), .sl [], .lit (.int .i64 0), .lit (.int .i64 0), .sl []], []⟩ := by kernel_rfl
@[go_sem] theorem ti92 : tiOf Tryz.prog 92 = some ⟨.struct [(3, 0), (3, 1), (3, 2), (22, 3)], 4, 48, [.lit (.int .i64 0), .lit (.int .i64 0), .lit (.int .i64 0), .sl []], []⟩ := by kernel_rfl
@[go_sem] theorem ti104 : tiOf Tryz.prog 104 = some ⟨.slice 9, 1, 24, [.sl []], []⟩ := by kernel_rfl
@[go_sem] theorem ti106 : tiOf Tryz.prog 106 = some ⟨.struct [(32, 0), (9, 1), (3, 2), (104, 3)], 4, 56, [.lit (.int .i64 0), .lit (.string ⟨#[]⟩), .lit (.int .i64 0), .sl []], []⟩ := by kernel_rfl
@[go_sem] theorem ti110 : tiOf Tryz.prog 110 = some ⟨.pointer 112, 1, 8, [.lit (.pointer none)], []⟩ := by kernel_rfl
@[go_sem] theorem ti112 : tiOf Tryz.prog 112 = some ⟨.struct [(57, 0)], 1, 24, [.sl []], []⟩ := by kernel_rfl
@[go_sem] theorem ti114 : tiOf Tryz.prog 114 = some ⟨.slice 165, 1, 24, [.sl []], []⟩ := by kernel_rfl
@[go_sem] theorem ti115 : tiOf Tryz.prog 115 = some ⟨.slice 167, 1, 24, [.sl []], []⟩ := by kernel_rfl
@[go_sem] theorem ti117 : tiOf Tryz.prog 117 = some ⟨.struct [(3, 0), (9, 1), (3, 2), (114, 3), (104, 4), (115, 5)], 6, 104, [.lit (.int .i64 0), .lit (.string ⟨#[]⟩), .lit (.int .i64 0), .sl [], .sl [], .sl []], []⟩ := by kernel_rfl
@[go_sem] theorem ti119 : tiOf Tryz.prog 119 = some ⟨.struct [(9, 0), (117, 1), (3, 7)], 8, 128, [.lit (.string ⟨#[]⟩), .lit (.int .i64 0), .lit (.string ⟨#[]⟩), .lit (.int .i64 0), .sl [], .sl [], .sl [], .lit (.int .i64 0)], []⟩ := by kernel_rfl
@[go_sem] theorem ti123 : tiOf Tryz.prog 123 = some ⟨.struct [(3, 0), (3, 1), (3, 2), (106, 3)], 7, 80, [.lit (.int .i64 0), .lit (.int .i64 0), .lit (.int .i64 0), .lit (.int .i64 0), .lit (.string ⟨#[]⟩), .lit (.int .i64 0), .sl []], []⟩ := by kernel_rfl
@[go_sem] theorem ti125 : tiOf Tryz.prog 125 = some ⟨.pointer 128, 1, 8, [.lit (.pointer none)], []⟩ := by kernel_rfl
@[go_sem] theorem ti128 : tiOf Tryz.prog 128 = some ⟨.struct [(57, 0), (4, 1)], 2, 32, [.sl [], .lit (.bool false)], []⟩ := by kernel_rfl
@[go_sem] theorem ti157 : tiOf Tryz.prog 157 = some ⟨.pointer 28, 1, 8, [.lit (.pointer none)], []⟩ := by kernel_rfl
@[go_sem] theorem ti159 : tiOf Tryz.prog 159 = some ⟨.other, 1, 8, [.lit .nilFunc], []⟩ := by kernel_rfl
@[go_sem] theorem ti163 : tiOf Tryz.prog 163 = some ⟨.int .u64, 1, 8, [.lit (.int .u64 0)], []⟩ := by kernel_rfl
@[go_sem] theorem ti165 : tiOf Tryz.prog 165 = some ⟨.struct [(9, 0), (9, 1)], 2, 32, [.lit (.string ⟨#[]⟩), .lit (.string ⟨#[]⟩)], [.string, .string]⟩ := by kernel_rfl
@[go_sem] theorem ti167 : tiOf Tryz.prog 167 = some ⟨.struct [(9, 0), (3, 1)], 2, 24, [.lit (.string ⟨#[]⟩), .lit (.int .i64 0)], [.string, .int .i64]⟩ := by kernel_rfl
@[go_sem] theorem ti168 : tiOf Tryz.prog 168 = some ⟨.int .u64, 1, 8, [.lit (.int .u64 0)], []⟩ := by kernel_rfl
@[go_sem] theorem ti176 : tiOf Tryz.prog 176 = some ⟨.slice 57, 1, 24, [.sl []], []⟩ := by kernel_rfl
@[go_sem] theorem ti180 : tiOf Tryz.prog 180 = some ⟨.other, 1, 8, [.lit .nilFunc], []⟩ := by kernel_rfl
@[go_sem] theorem ti182 : tiOf Tryz.prog 182 = some ⟨.pointer 185, 1, 8, [.lit (.pointer none)], []⟩ := by kernel_rfl
@[go_sem] theorem ti185 : tiOf Tryz.prog 185 = some ⟨.struct [(25, 0), (3, 2), (4, 3)], 4, 48, [.lit (.int .i64 0), .sl [], .lit (.int .i64 0), .lit (.bool false)], []⟩ := by kernel_rfl
@[go_sem] theorem ti187 : tiOf Tryz.prog 187 = some ⟨.other, 1, 8, [.lit .nilFunc], []⟩ := by kernel_rfl
@[go_sem] theorem ti200 : tiOf Tryz.prog 200 = some ⟨.other, 1, 8, [.lit .nilFunc], []⟩ := by kernel_rfl
@[go_sem] theorem ti202 : tiOf Tryz.prog 202 = some ⟨.other, 1, 8, [.lit .nilFunc], []⟩ := by kernel_rfl
@[go_sem] theorem ti204 : tiOf Tryz.prog 204 = some ⟨.other, 1, 8, [.lit .nilFunc], []⟩ := by kernel_rfl
@[go_sem] theorem ti206 : tiOf Tryz.prog 206 = some ⟨.other, 1, 8, [.lit .nilFunc], []⟩ := by kernel_rfl
@[go_sem] theorem ti208 : tiOf Tryz.prog 208 = some ⟨.other, 1, 8, [.lit .nilFunc], []⟩ := by kernel_rfl
@[go_sem] theorem ti223 : tiOf Tryz.prog 223 = some ⟨.other, 1, 8, [.lit .nilFunc], []⟩ := by kernel_rfl
@[go_sem] theorem ti230 : tiOf Tryz.prog 230 = some ⟨.pointer 117, 1, 8, [.lit (.pointer none)], []⟩ := by kernel_rfl
@[go_sem] theorem ti233 : tiOf Tryz.prog 233 = some ⟨.slice 3, 1, 24, [.sl []], []⟩ := by kernel_rfl
@[go_sem] theorem u8_5 : isU8 Tryz.prog 5 = true := by kernel_rfl
@[go_sem] theorem en3 : enters Tryz.prog 3 = true := by kernel_rfl
@[go_sem] theorem en4 : enters Tryz.prog 4 = true := by kernel_rfl
@[go_sem] theorem en5 : enters Tryz.prog 5 = true := by kernel_rfl
@[go_sem] theorem en6 : enters Tryz.prog 6 = true := by kernel_rfl
@[go_sem] theorem en7 : enters Tryz.prog 7 = true := by kernel_rfl
@[go_sem] theorem en8 : enters Tryz.prog 8 = true := by kernel_rfl
@[go_sem] theorem en9 : enters Tryz.prog 9 = true := by kernel_rfl
@[go_sem] theorem en10 : enters Tryz.prog 10 = true := by kernel_rfl
@[go_sem] theorem en11 : enters Tryz.prog 11 = true := by kernel_rfl
@[go_sem] theorem en12 : enters Tryz.prog 12 = true := by kernel_rfl
@[go_sem] theorem en13 : enters Tryz.prog 13 = true := by kernel_rfl
@[go_sem] theorem en14 : enters Tryz.prog 14 = true := by kernel_rfl
@[go_sem] theorem en15 : enters Tryz.prog 15 = true := by kernel_rfl
@[go_sem] theorem en16 : enters Tryz.prog 16 = true := by kernel_rfl
@[go_sem] theorem en17 : enters Tryz.prog 17 = true := by kernel_rfl
@[go_sem] theorem en18 : enters Tryz.prog 18 = true := by kernel_rfl
@[go_sem] theorem en19 : enters Tryz.prog 19 = true := by kernel_rfl
@[go_sem] theorem en20 : enters Tryz.prog 20 = true := by kernel_rfl
@[go_sem] theorem en21 : enters Tryz.prog 21 = true := by kernel_rfl
@[go_sem] theorem en22 : enters Tryz.prog 22 = true := by kernel_rfl
@[go_sem] theorem en23 : enters Tryz.prog 23 = true := by kernel_rfl
@[go_sem] theorem en24 : enters Tryz.prog 24 = true := by kernel_rfl
@[go_sem] theorem en25 : enters Tryz.prog 25 = true := by kernel_rfl
@[go_sem] theorem en26 : enters Tryz.prog 26 = true := by kernel_rfl
@[go_sem] theorem en27 : enters Tryz.prog 27 = true := by kernel_rfl
@[go_sem] theorem en28 : enters Tryz.prog 28 = true := by kernel_rfl
@[go_sem] theorem en29 : enters Tryz.prog 29 = true := by kernel_rfl
@[go_sem] theorem en30 : enters Tryz.prog 30 = true := by kernel_rfl
@[go_sem] theorem en31 : enters Tryz.prog 31 = true := by kernel_rfl
@[go_sem] theorem en32 : enters Tryz.prog 32 = true := by kernel_rfl
@[go_sem] theorem en33 : enters Tryz.prog 33 = true := by kernel_rfl
@[go_sem] theorem en34 : enters Tryz.prog 34 = true := by kernel_rfl
@[go_sem] theorem en35 : enters Tryz.prog 35 = true := by kernel_rfl
@[go_sem] theorem en36 : enters Tryz.prog 36 = true := by kernel_rfl
@[go_sem] theorem en37 : enters Tryz.prog 37 = true := by kernel_rfl
@[go_sem] theorem en38 : enters Tryz.prog 38 = true := by kernel_rfl
@[go_sem] theorem en39 : enters Tryz.prog 39 = true := by kernel_rfl
@[go_sem] theorem en40 : enters Tryz.prog 40 = true := by kernel_rfl
@[go_sem] theorem en41 : enters Tryz.prog 41 = true := by kernel_rfl
@[go_sem] theorem en42 : enters Tryz.prog 42 = true := by kernel_rfl
@[go_sem] theorem en43 : enters Tryz.prog 43 = true := by kernel_rfl
@[go_sem] theorem en44 : enters Tryz.prog 44 = true := by kernel_rfl
@[go_sem] theorem en45 : enters Tryz.prog 45 = true := by kernel_rfl
@[go_sem] theorem en46 : enters Tryz.prog 46 = true := by kernel_rfl
@[go_sem] theorem en47 : enters Tryz.prog 47 = true := by kernel_rfl
@[go_sem] theorem en48 : enters Tryz.prog 48 = true := by kernel_rfl
@[go_sem] theorem en49 : enters Tryz.prog 49 = true := by kernel_rfl
@[go_sem] theorem en50 : enters Tryz.prog 50 = true := by kernel_rfl
@[go_sem] theorem en51 : enters Tryz.prog 51 = true := by kernel_rfl
@[go_sem] theorem en52 : enters Tryz.prog 52 = true := by kernel_rfl
@[go_sem] theorem en53 : enters Tryz.prog 53 = true := by kernel_rfl
@[go_sem] theorem en54 : enters Tryz.prog 54 = true := by kernel_rfl
@[go_sem] theorem en55 : enters Tryz.prog 55 = true := by kernel_rfl
@[go_sem] theorem en56 : enters Tryz.prog 56 = true := by kernel_rfl
@[go_sem] theorem en57 : enters Tryz.prog 57 = true := by kernel_rfl
@[go_sem] theorem en58 : enters Tryz.prog 58 = true := by kernel_rfl
@[go_sem] theorem en59 : enters Tryz.prog 59 = true := by kernel_rfl
@[go_sem] theorem en60 : enters Tryz.prog 60 = true := by kernel_rfl
@[go_sem] theorem en61 : enters Tryz.prog 61 = true := by kernel_rfl
@[go_sem] theorem en62 : enters Tryz.prog 62 = true := by kernel_rfl
@[go_sem] theorem en63 : enters Tryz.prog 63 = true := by kernel_rfl
@[go_sem] theorem en64 : enters Tryz.prog 64 = true := by kernel_rfl
@[go_sem] theorem en65 : enters Tryz.prog 65 = true := by kernel_rfl
@[go_sem] theorem en66 : enters Tryz.prog 66 = true := by kernel_rfl
@[go_sem] theorem en67 : enters Tryz.prog 67 = true := by kernel_rfl
@[go_sem] theorem en68 : enters Tryz.prog 68 = true := by kernel_rfl
@[go_sem] theorem en69 : enters Tryz.prog 69 = true := by kernel_rfl
@[go_sem] theorem en70 : enters Tryz.prog 70 = true := by kernel_rfl
@[go_sem] theorem en71 : enters Tryz.prog 71 = true := by kernel_rfl
@[go_sem] theorem en72 : enters Tryz.prog 72 = true := by kernel_rfl
@[go_sem] theorem en73 : enters Tryz.prog 73 = true := by kernel_rfl
@[go_sem] theorem en74 : enters Tryz.prog 74 = true := by kernel_rfl
@[go_sem] theorem en75 : enters Tryz.prog 75 = true := by kernel_rfl
@[go_sem] theorem en76 : enters Tryz.prog 76 = true := by kernel_rfl
@[go_sem] theorem en77 : enters Tryz.prog 77 = true := by kernel_rfl
@[go_sem] theorem en78 : enters Tryz.prog 78 = true := by kernel_rfl
@[go_sem] theorem en79 : enters Tryz.prog 79 = true := by kernel_rfl
@[go_sem] theorem en80 : enters Tryz.prog 80 = true := by kernel_rfl
@[go_sem] theorem en81 : enters Tryz.prog 81 = true := by kernel_rfl
@[go_sem] theorem en82 : enters Tryz.prog 82 = true := by kernel_rfl
@[go_sem] theorem en83 : enters Tryz.prog 83 = true := by kernel_rfl
@[go_sem] theorem en84 : enters Tryz.prog 84 = true := by kernel_rfl
@[go_sem] theorem en85 : enters Tryz.prog 85 = true := by kernel_rfl
@[go_sem] theorem en86 : enters Tryz.prog 86 = true := by kernel_rfl
@[go_sem] theorem en87 : enters Tryz.prog 87 = true := by kernel_rfl
@[go_sem] theorem en88 : enters Tryz.prog 88 = true := by kernel_rfl
@[go_sem] theorem en89 : enters Tryz.prog 89 = true := by kernel_rfl
@[go_sem] theorem en90 : enters Tryz.prog 90 = true := by kernel_rfl
@[go_sem] theorem en91 : enters Tryz.prog 91 = true := by kernel_rfl
@[go_sem] theorem en92 : enters Tryz.prog 92 = true := by kernel_rfl
@[go_sem] theorem en93 : enters Tryz.prog 93 = true := by kernel_rfl
@[go_sem] theorem en94 : enters Tryz.prog 94 = true := by kernel_rfl
@[go_sem] theorem en95 : enters Tryz.prog 95 = true := by kernel_rfl
@[go_sem] theorem en96 : enters Tryz.prog 96 = true := by kernel_rfl
@[go_sem] theorem en97 : enters Tryz.prog 97 = true := by kernel_rfl
@[go_sem] theorem en98 : enters Tryz.prog 98 = true := by kernel_rfl
@[go_sem] theorem en99 : enters Tryz.prog 99 = true := by kernel_rfl
@[go_sem] theorem en100 : enters Tryz.prog 100 = true := by kernel_rfl
@[go_sem] theorem en101 : enters Tryz.prog 101 = true := by kernel_rfl
@[go_sem] theorem en102 : enters Tryz.prog 102 = true := by kernel_rfl
@[go_sem] theorem en103 : enters Tryz.prog 103 = true := by kernel_rfl
@[go_sem] theorem en104 : enters Tryz.prog 104 = true := by kernel_rfl
@[go_sem] theorem en105 : enters Tryz.prog 105 = true := by kernel_rfl
@[go_sem] theorem en106 : enters Tryz.prog 106 = true := by kernel_rfl
@[go_sem] theorem en107 : enters Tryz.prog 107 = true := by kernel_rfl
@[go_sem] theorem en108 : enters Tryz.prog 108 = true := by kernel_rfl
@[go_sem] theorem en109 : enters Tryz.prog 109 = true := by kernel_rfl
@[go_sem] theorem en110 : enters Tryz.prog 110 = true := by kernel_rfl
@[go_sem] theorem en111 : enters Tryz.prog 111 = true := by kernel_rfl
@[go_sem] theorem en112 : enters Tryz.prog 112 = true := by kernel_rfl
@[go_sem] theorem en113 : enters Tryz.prog 113 = true := by kernel_rfl
@[go_sem] theorem en114 : enters Tryz.prog 114 = true := by kernel_rfl
@[go_sem] theorem en115 : enters Tryz.prog 115 = true := by kernel_rfl
@[go_sem] theorem en116 : enters Tryz.prog 116 = true := by kernel_rfl
@[go_sem] theorem en117 : enters Tryz.prog 117 = true := by kernel_rfl
@[go_sem] theorem en118 : enters Tryz.prog 118 = true := by kernel_rfl
@[go_sem] theorem en119 : enters Tryz.prog 119 = true := by kernel_rfl
@[go_sem] theorem en120 : enters Tryz.prog 120 = true := by kernel_rfl
@[go_sem] theorem en121 : enters Tryz.prog 121 = true := by kernel_rfl
@[go_sem] theorem en122 : enters Tryz.prog 122 = true := by kernel_rfl
@[go_sem] theorem en123 : enters Tryz.prog 123 = true := by kernel_rfl
@[go_sem] theorem en124 : enters Tryz.prog 124 = true := by kernel_rfl
@[go_sem] theorem en125 : enters Tryz.prog 125 = true := by kernel_rfl
@[go_sem] theorem en126 : enters Tryz.prog 126 = true := by kernel_rfl
@[go_sem] theorem en127 : enters Tryz.prog 127 = true := by kernel_rfl
@[go_sem] theorem en128 : enters Tryz.prog 128 = true := by kernel_rfl
@[go_sem] theorem en129 : enters Tryz.prog 129 = true := by kernel_rfl
@[go_sem] theorem en130 : enters Tryz.prog 130 = true := by kernel_rfl
@[go_sem] theorem en131 : enters Tryz.prog 131 = true := by kernel_rfl
@[go_sem] theorem en132 : enters Tryz.prog 132 = true := by kernel_rfl
@[go_sem] theorem en133 : enters Tryz.prog 133 = true := by kernel_rfl
@[go_sem] theorem en134 : enters Tryz.prog 134 = true := by kernel_rfl
@[go_sem] theorem en135 : enters Tryz.prog 135 = true := by kernel_rfl
@[go_sem] theorem en136 : enters Tryz.prog 136 = true := by kernel_rfl
@[go_sem] theorem en137 : enters Tryz.prog 137 = true := by kernel_rfl
@[go_sem] theorem en138 : enters Tryz.prog 138 = true := by kernel_rfl
@[go_sem] theorem en139 : enters Tryz.prog 139 = true := by kernel_rfl
@[go_sem] theorem en140 : enters Tryz.prog 140 = true := by kernel_rfl
@[go_sem] theorem en141 : enters Tryz.prog 141 = true := by kernel_rfl
@[go_sem] theorem en142 : enters Tryz.prog 142 = true := by kernel_rfl
@[go_sem] theorem en143 : enters Tryz.prog 143 = true := by kernel_rfl
@[go_sem] theorem en144 : enters Tryz.prog 144 = true := by kernel_rfl
@[go_sem] theorem en145 : enters Tryz.prog 145 = true := by kernel_rfl
@[go_sem] theorem en146 : enters Tryz.prog 146 = true := by kernel_rfl
@[go_sem] theorem en147 : enters Tryz.prog 147 = true := by kernel_rfl
@[go_sem] theorem en148 : enters Tryz.prog 148 = true := by kernel_rfl
@[go_sem] theorem en149 : enters Tryz.prog 149 = true := by kernel_rfl
@[go_sem] theorem en150 : enters Tryz.prog 150 = true := by kernel_rfl
@[go_sem] theorem en151 : enters Tryz.prog 151 = true := by kernel_rfl
@[go_sem] theorem en152 : enters Tryz.prog 152 = true := by kernel_rfl
@[go_sem] theorem en153 : enters Tryz.prog 153 = true := by kernel_rfl
@[go_sem] theorem en154 : enters Tryz.prog 154 = true := by kernel_rfl
@[go_sem] theorem en155 : enters Tryz.prog 155 = true := by kernel_rfl
@[go_sem] theorem en156 : enters Tryz.prog 156 = true := by kernel_rfl
@[go_sem] theorem en157 : enters Tryz.prog 157 = true := by kernel_rfl
@[go_sem] theorem en159 : enters Tryz.prog 159 = true := by kernel_rfl
@[go_sem] theorem en160 : enters Tryz.prog 160 = true := by kernel_rfl
@[go_sem] theorem en161 : enters Tryz.prog 161 = true := by kernel_rfl
@[go_sem] theorem en162 : enters Tryz.prog 162 = true := by kernel_rfl
@[go_sem] theorem en163 : enters Tryz.prog 163 = true := by kernel_rfl
@[go_sem] theorem en164 : enters Tryz.prog 164 = true := by kernel_rfl
@[go_sem] theorem en166 : enters Tryz.prog 166 = true := by kernel_rfl
@[go_sem] theorem en167 : enters Tryz.prog 167 = true := by kernel_rfl
@[go_sem] theorem en168 : enters Tryz.prog 168 = true := by kernel_rfl
@[go_sem] theorem en169 : enters Tryz.prog 169 = true := by kernel_rfl
@[go_sem] theorem en170 : enters Tryz.prog 170 = true := by kernel_rfl
@[go_sem] theorem en171 : enters Tryz.prog 171 = true := by kernel_rfl
@[go_sem] theorem en172 : enters Tryz.prog 172 = true := by kernel_rfl
@[go_sem] theorem en173 : enters Tryz.prog 173 = true := by kernel_rfl
@[go_sem] theorem en174 : enters Tryz.prog 174 = true := by kernel_rfl
@[go_sem] theorem en175 : enters Tryz.prog 175 = true := by kernel_rfl
@[go_sem] theorem en176 : enters Tryz.prog 176 = true := by kernel_rfl
@[go_sem] theorem en179 : enters Tryz.prog 179 = true := by kernel_rfl
@[go_sem] theorem en181 : enters Tryz.prog 181 = true := by kernel_rfl
@[go_sem] theorem en182 : enters Tryz.prog 182 = true := by kernel_rfl
@[go_sem] theorem en183 : enters Tryz.prog 183 = true := by kernel_rfl
@[go_sem] theorem en185 : enters Tryz.prog 185 = true := by kernel_rfl
@[go_sem] theorem en189 : enters Tryz.prog 189 = true := by kernel_rfl
abbrev ac_rostrumkeep_snap := CC.of Tryz.f15 [(1, [([0, 1, 2, 3, 4, 5, 6, 7, 8, 9, 10, 11, 12, 13], [(8, 1), (8, 4), (9, 1), (9, 4)])])]
abbrev ac_tape_CheckSnap := CC.of Tryz.f16 []
abbrev ac_rostrumkeep_picked := CC.of Tryz.f17 []
abbrev ac_tape_Check := CC.of Tryz.f18 []
abbrev ac_ledger_Term := CC.of Tryz.f21 []
abbrev ac_ledger_Check := CC.of Tryz.f22 [(9, [([0, 1, 2, 3, 4, 5], [])])]
abbrev ac_rostrumkeep_Machine := CC.of Tryz.f24 [(7, [([0, 1, 2, 3, 4, 5, 6, 7, 8, 9, 10, 11, 12, 13, 14, 15, 16, 17], [(0, 7), (0, 13), (0, 14), (2, 13), (2, 14), (5, 13), (5, 14), (6, 13), (6, 14)]), ([0, 1, 2, 3, 4, 5, 6, 7, 8, 9, 10, 11, 12, 14, 13, 15, 16, 17], [(0, 7), (0, 13), (0, 14), (2, 13), (2, 14), (5, 13), (5, 14), (6, 13), (6, 14)]), ([0, 1, 2, 3, 4, 5, 6, 7, 13, 8, 9, 10, 11, 12, 14, 15, 16, 17], [(0, 7), (0, 8), (0, 14), (2, 8), (2, 14), (5, 8), (5, 14), (6, 8), (6, 14)]), ([0, 1, 2, 3, 4, 5, 6, 7, 13, 14, 8, 9, 10, 11, 12, 15, 16, 17], [(0, 7), (0, 8), (0, 9), (2, 8), (2, 9), (5, 8), (5, 9), (6, 8), (6, 9)]), ([0, 1, 2, 3, 4, 5, 6, 7, 14, 8, 9, 10, 11, 12, 13, 15, 16, 17], [(0, 7), (0, 8), (0, 14), (2, 8), (2, 14), (5, 8), (5, 14), (6, 8), (6, 14)]), ([0, 1, 2, 3, 4, 5, 6, 7, 14, 13, 8, 9, 10, 11, 12, 15, 16, 17], [(0, 7), (0, 8), (0, 9), (2, 8), (2, 9), (5, 8), (5, 9), (6, 8), (6, 9)]), ([0, 1, 2, 3, 4, 5, 6, 13, 7, 8, 9, 10, 11, 12, 14, 15, 16, 17], [(0, 7), (0, 8), (0, 14), (2, 7), (2, 14), (5, 7), (5, 14), (6, 7), (6, 14)]), ([0, 1, 2, 3, 4, 5, 6, 13, 7, 14, 8, 9, 10, 11, 12, 15, 16, 17], [(0, 7), (0, 8), (0, 9), (2, 7), (2, 9), (5, 7), (5, 9), (6, 7), (6, 9)]), ([0, 1, 2, 3, 4, 5, 6, 13, 14, 7, 8, 9, 10, 11, 12, 15, 16, 17], [(0, 7), (0, 8), (0, 9), (2, 7), (2, 8), (5, 7), (5, 8), (6, 7), (6, 8)]), ([0, 1, 2, 3, 4, 5, 6, 14, 7, 8, 9, 10, 11, 12, 13, 15, 16, 17], [(0, 7), (0, 8), (0, 14), (2, 7), (2, 14), (5, 7), (5, 14), (6, 7), (6, 14)]), ([0, 1, 2, 3, 4, 5, 6, 14, 7, 13, 8, 9, 10, 11, 12, 15, 16, 17], [(0, 7), (0, 8), (0, 9), (2, 7), (2, 9), (5, 7), (5, 9), (6, 7), (6, 9)]), ([0, 1, 2, 3, 4, 5, 6, 14, 13, 7, 8, 9, 10, 11, 12, 15, 16, 17], [(0, 7), (0, 8), (0, 9), (2, 7), (2, 8), (5, 7), (5, 8), (6, 7), (6, 8)])])]
abbrev ac_wire_Encode := CC.of Tryz.f25 []
abbrev ac_wire_Decode := CC.of Tryz.f26 []
abbrev ac_tape_Fold := CC.of Tryz.f34 [(10, [([0, 1, 2, 3, 4, 5, 6, 7], [(3, 5)])]), (18, [([0, 1, 2, 3, 4, 5, 6, 7, 8, 9, 10], [(1, 6)])])]
abbrev ac_rostrumkeep_record := CC.of Tryz.f37 [(3, [([0, 1, 2, 3, 4, 5, 6, 7, 8, 9], [(5, 2)])]), (8, [([0, 1, 2, 3, 4, 5, 6, 7, 8, 9, 10, 11], [(4, 2), (6, 2), (8, 2)])])]
abbrev ac_tape_Append := CC.of Tryz.f38 [(10, [([0, 1, 2, 3, 4, 5, 6, 7, 8, 9], [(1, 4)])])]
abbrev ac_tape_number := CC.of Tryz.f40 []
abbrev ac_client_Check := CC.of Tryz.f41 [(6, [([0, 1, 2, 3, 4, 5, 6, 7, 8, 9, 10, 11, 12, 13, 14, 15, 16, 17, 18, 19, 20, 21, 22, 23, 24, 25], [])])]
abbrev ac_tape_noSnap := CC.of Tryz.f42 []
abbrev ac_wire_CheckItem := CC.of Tryz.f43 []
abbrev ac_tape_rest := CC.of Tryz.f44 []
abbrev ac_ledger_term := CC.of Tryz.f45 []
abbrev ac_client_New := CC.of Tryz.f46 []
abbrev ac_client_Do := CC.of Tryz.f47 [(9, [([0, 1, 2, 3, 4, 5, 6, 7], [(1, 4), (1, 6), (3, 6)]), ([0, 1, 2, 3, 6, 4, 5, 7], [(1, 4), (1, 5), (3, 4)])]), (13, [([0, 1, 2, 3, 4], [(1, 2)])]), (18, [([0, 1, 2, 3, 4, 5, 6, 7], [])]), (19, [([0, 1, 2, 3, 4, 5, 6, 7, 8], [(0, 5)])]), (20, [([0, 1, 2, 3, 4, 5, 6, 7, 8], [])]), (24, [([0, 1, 2, 3, 4, 5, 6, 7, 8, 9, 10, 11, 12, 13, 14, 15, 16, 17], [(4, 8), (6, 8), (6, 11)])]), (25, [([0, 1, 2, 3, 4], [(1, 2)])])]
abbrev ac_rostrumkeep_call := CC.of Tryz.f48 [(9, [([0, 1, 2, 3, 4, 5, 6, 7, 8, 9, 10, 11, 12, 13, 14], [(1, 9), (3, 9), (5, 9)])])]
abbrev ac_wire_writer_number := CC.of Tryz.f49 [(4, [([0, 1, 2, 3, 4, 5, 6, 7, 8, 9, 10, 11, 12, 13], [(4, 9)])])]
abbrev ac_wire_writer_small := CC.of Tryz.f50 []
abbrev ac_wire_writer_text := CC.of Tryz.f51 []
abbrev ac_wire_writer_value := CC.of Tryz.f52 []
abbrev ac_wire_writer_texts := CC.of Tryz.f53 []
abbrev ac_slices_Clone_byte := CC.of Tryz.f54 []
abbrev ac_wire_reader_number := CC.of Tryz.f55 []
abbrev ac_wire_reader_each := CC.of Tryz.f56 []
abbrev ac_wire_Decode_1 := CC.of Tryz.f57 [(0, [([0, 1, 2, 3, 4, 5, 6, 7, 8, 9, 10, 11, 12, 13, 14], [(2, 4), (2, 6), (2, 8), (2, 10), (5, 4), (7, 4), (7, 6)])])]
abbrev ac_wire_reader_text := CC.of Tryz.f58 []
abbrev ac_wire_reader_value := CC.of Tryz.f59 [(1, [([0, 1, 2, 3, 4, 5, 6, 7, 8], [(0, 7), (2, 1), (2, 7), (4, 1), (4, 3), (4, 7)]), ([0, 1, 2, 3, 4, 7, 5, 6, 8], [(0, 5), (2, 1), (2, 5), (4, 1), (4, 3), (4, 5)]), ([0, 1, 2, 4, 7, 3, 5, 6, 8], [(0, 4), (2, 1), (2, 4), (3, 1), (3, 4), (3, 5)]), ([0, 2, 4, 7, 1, 3, 5, 6, 8], [(0, 3), (1, 3), (1, 4), (2, 3), (2, 4), (2, 5)])])]
abbrev ac_wire_Decode_2 := CC.of Tryz.f60 [(0, [([0, 1, 2, 3, 4, 5, 6, 7, 8], [(0, 7), (2, 1), (2, 7), (4, 1), (4, 3), (4, 7)]), ([0, 1, 2, 3, 4, 7, 5, 6, 8], [(0, 5), (2, 1), (2, 5), (4, 1), (4, 3), (4, 5)]), ([0, 1, 2, 4, 7, 3, 5, 6, 8], [(0, 4), (2, 1), (2, 4), (3, 1), (3, 4), (3, 5)]), ([0, 2, 4, 7, 1, 3, 5, 6, 8], [(0, 3), (1, 3), (1, 4), (2, 3), (2, 4), (2, 5)])]), (1, [([0, 1, 2, 3, 4, 5, 6, 7, 8], [(2, 1), (4, 1), (4, 3)])])]
abbrev ac_wire_reader_small := CC.of Tryz.f61 []
abbrev ac_wire_reader_texts := CC.of Tryz.f62 []
abbrev ac_wire_reader_end := CC.of Tryz.f63 []
abbrev ac_tape_open := CC.of Tryz.f67 [(3, [([0, 1, 2, 3, 4, 5, 6, 7], [(4, 2)])])]
abbrev ac_rostrumkeep_Item := CC.of Tryz.f68 [(3, [([0, 1, 2, 3, 4, 5, 6, 7, 8, 9, 10, 11, 12, 13], [(5, 2), (9, 2), (9, 6)])])]
abbrev ac_tape_New := CC.of Tryz.f69 []
abbrev ac_tape_line := CC.of Tryz.f70 [(6, [([0, 1, 2, 3, 4, 5, 6, 7, 8, 9, 10, 11, 12, 13, 14, 15, 16, 17, 18], [(1, 12), (1, 14), (1, 15), (1, 17), (3, 12), (3, 14), (3, 15), (3, 17), (5, 14), (5, 17), (8, 14), (8, 17), (13, 12), (13, 17)]), ([0, 1, 2, 3, 4, 5, 6, 7, 8, 9, 10, 11, 12, 13, 14, 17, 15, 16, 18], [(1, 12), (1, 14), (1, 15), (1, 16), (3, 12), (3, 14), (3, 15), (3, 16), (5, 14), (5, 15), (8, 14), (8, 15), (13, 12), (13, 15)]), ([0, 1, 2, 3, 4, 5, 6, 7, 8, 9, 10, 11, 12, 13, 17, 14, 15, 16, 18], [(1, 12), (1, 14), (1, 15), (1, 16), (3, 12), (3, 14), (3, 15), (3, 16), (5, 14), (5, 15), (8, 14), (8, 15), (13, 12), (13, 14)]), ([0, 1, 2, 3, 4, 5, 6, 7, 8, 9, 10, 11, 13, 14, 12, 15, 16, 17, 18], [(1, 13), (1, 14), (1, 15), (1, 17), (3, 13), (3, 14), (3, 15), (3, 17), (5, 13), (5, 17), (8, 13), (8, 17), (12, 14), (12, 17)]), ([0, 1, 2, 3, 4, 5, 6, 7, 8, 9, 10, 11, 13, 14, 12, 17, 15, 16, 18], [(1, 13), (1, 14), (1, 15), (1, 16), (3, 13), (3, 14), (3, 15), (3, 16), (5, 13), (5, 15), (8, 13), (8, 15), (12, 14), (12, 15)]), ([0, 1, 2, 3, 4, 5, 6, 7, 8, 9, 10, 11, 13, 14, 17, 12, 15, 16, 18], [(1, 13), (1, 14), (1, 15), (1, 16), (3, 13), (3, 14), (3, 15), (3, 16), (5, 13), (5, 14), (8, 13), (8, 14), (12, 14), (12, 15)]), ([0, 1, 2, 3, 4, 5, 6, 7, 8, 9, 10, 11, 13, 17, 12, 14, 15, 16, 18], [(1, 13), (1, 14), (1, 15), (1, 16), (3, 13), (3, 14), (3, 15), (3, 16), (5, 13), (5, 15), (8, 13), (8, 15), (12, 13), (12, 14)]), ([0, 1, 2, 3, 4, 5, 6, 7, 8, 9, 10, 11, 13, 17, 14, 12, 15, 16, 18], [(1, 13), (1, 14), (1, 15), (1, 16), (3, 13), (3, 14), (3, 15), (3, 16), (5, 13), (5, 14), (8, 13), (8, 14), (12, 13), (12, 15)])])]
abbrev ac_slices_Clone_api_Item := CC.of Tryz.f71 []
abbrev ac_store_Check := CC.of Tryz.f77 [(6, [([0, 1, 2, 3, 4, 5, 6, 7, 8, 9, 10, 11, 12, 13, 14, 15, 16, 17, 18, 19, 20, 21, 22, 23, 24, 25, 26, 27, 28, 29, 30, 31], [])])]
abbrev ac_client_CheckReply := CC.of Tryz.f78 []
abbrev ac_client_CheckCall := CC.of Tryz.f79 []
abbrev ac_ledger_Trim := CC.of Tryz.f80 []
abbrev ac_client_ownClients := CC.of Tryz.f81 []
abbrev ac_store_Apply := CC.of Tryz.f82 [(10, [([0, 1, 2, 3, 4, 5, 6, 7, 8, 9, 10, 11], [])]), (11, [([0, 1, 2, 3, 4, 5, 6, 7, 8, 9, 10, 11], [(0, 7)])]), (13, [([0, 1, 2, 3, 4, 5, 6, 7, 8], [(5, 4), (5, 6)])])]
abbrev ac_client_open := CC.of Tryz.f83 [(8, [([0, 1, 2, 3, 4, 5, 6, 7, 8, 9, 10], [])]), (12, [([0, 1, 2, 3, 4, 5, 6, 7, 8, 9, 10, 11, 12, 13, 14, 15, 16, 17, 18, 19], [(4, 15)])])]
abbrev ac_slices_IndexFunc_api_Client := CC.of Tryz.f84 []
abbrev ac_client_Do_1 := CC.of Tryz.f85 []
abbrev ac_client_ownReply := CC.of Tryz.f86 []
abbrev ac_rostrumkeep_Command := CC.of Tryz.f87 [(1, [([0, 1, 2, 3, 4, 5, 6, 7, 8, 9], [(1, 8), (5, 2), (5, 8)]), ([0, 1, 2, 3, 4, 5, 8, 6, 7, 9], [(1, 6), (5, 2), (5, 6)]), ([0, 1, 4, 5, 8, 2, 3, 6, 7, 9], [(1, 4), (3, 4), (3, 5)])])]
abbrev ac_wire_reader_take := CC.of Tryz.f88 []
abbrev ac_wire_reader_value_1 := CC.of Tryz.f89 [(0, [([0, 1, 2, 3, 4, 5, 6, 7, 8, 9, 10], [(1, 3), (1, 5), (1, 7), (4, 3)])])]
abbrev ac_wire_reader_value_2 := CC.of Tryz.f90 [(0, [([0, 1, 2, 3, 4, 5, 6, 7, 8, 9, 10], [(1, 3), (1, 5), (1, 7), (4, 3)])])]
abbrev ac_wire_reader_texts_1 := CC.of Tryz.f91 [(0, [([0, 1, 2, 3, 4, 5], [(0, 2), (0, 3)])])]
abbrev ac_ledger_Last := CC.of Tryz.f95 []
abbrev ac_value_Check := CC.of Tryz.f98 [(30, [([0, 1, 2, 3, 4, 5, 6, 7, 8, 9, 10, 11], [])])]
abbrev ac_slices_ContainsFunc_string := CC.of Tryz.f99 []
abbrev ac_client_CheckReply_1 := CC.of Tryz.f100 []
abbrev ac_client_number := CC.of Tryz.f101 []
abbrev ac_value_CheckCommand := CC.of Tryz.f102 [(18, [([0, 1, 2, 3, 4, 5, 6, 7], [(3, 5)])]), (23, [([0, 1, 2, 3, 4, 5, 6, 7], [(3, 5)])])]
abbrev ac_store_own := CC.of Tryz.f103 [(6, [([0, 1, 2, 3, 4, 5, 6, 7, 8, 9, 10, 11, 12, 13, 14], [(4, 2), (7, 2), (7, 5)])])]
abbrev ac_slices_DeleteFunc_api_Entry := CC.of Tryz.f104 []
abbrev ac_store_Apply_1 := CC.of Tryz.f105 [(1, [([0, 1, 2, 3, 4, 5, 6, 7, 8, 9, 10, 11, 12, 13], [])])]
abbrev ac_store_keyed_do := CC.of Tryz.f106 [(21, [([0, 1, 2, 3, 4, 5, 6, 7, 8, 9, 10, 11, 12], [])])]
abbrev ac_slices_Delete_api_Client := CC.of Tryz.f107 [(5, [([0, 1, 2, 3, 4, 5, 6, 7], [])])]
abbrev ac_slices_Clone_string := CC.of Tryz.f108 []
abbrev ac_rostrumkeep_some := CC.of Tryz.f109 []
abbrev ac_rostrumkeep_cut := CC.of Tryz.f110 []
abbrev ac_ledger_last := CC.of Tryz.f112 [(3, [([0, 1, 2, 3, 4, 5, 6, 7, 8, 9, 10, 11, 12], [])]), (4, [([0, 1, 2, 3, 4, 5], [])])]
abbrev ac_value_elements := CC.of Tryz.f114 []
abbrev ac_value_text := CC.of Tryz.f115 []
abbrev ac_value_Check_1 := CC.of Tryz.f116 []
abbrev ac_slices_ContainsFunc_api_Pair := CC.of Tryz.f117 []
abbrev ac_value_Check_2 := CC.of Tryz.f118 []
abbrev ac_value_field := CC.of Tryz.f119 []
abbrev ac_slices_ContainsFunc_api_Score := CC.of Tryz.f120 []
abbrev ac_value_Check_3 := CC.of Tryz.f121 []
abbrev ac_value_count := CC.of Tryz.f122 []
abbrev ac_value_Check_4 := CC.of Tryz.f123 []
abbrev ac_value_rising_api_Pair := CC.of Tryz.f124 [(4, [([0, 1, 2, 3, 4, 5, 6, 7, 8, 9, 10, 11], [])])]
abbrev ac_value_byField := CC.of Tryz.f125 []
abbrev ac_value_rising_api_Score := CC.of Tryz.f126 [(4, [([0, 1, 2, 3, 4, 5, 6, 7, 8, 9, 10, 11], [])])]
abbrev ac_value_byScore := CC.of Tryz.f127 [(1, [([0, 1, 2, 3, 4, 5, 6, 7, 8, 9, 10, 11, 12], [(6, 4), (8, 4)])])]
abbrev ac_value_rising_string := CC.of Tryz.f128 [(4, [([0, 1, 2, 3, 4, 5, 6, 7, 8, 9, 10, 11], [])])]
abbrev ac_strings_Compare := CC.of Tryz.f129 []
abbrev ac_value_rank := CC.of Tryz.f130 []
abbrev ac_slices_IndexFunc_string := CC.of Tryz.f131 []
abbrev ac_slices_Clone_api_Pair := CC.of Tryz.f132 []
abbrev ac_slices_Clone_api_Score := CC.of Tryz.f133 []
abbrev ac_slices_IndexFunc_api_Entry := CC.of Tryz.f134 []
abbrev ac_store_keyed_find := CC.of Tryz.f135 []
abbrev ac_store_keyed_remove := CC.of Tryz.f136 [(0, [([0, 1, 2, 3, 4, 5, 6, 7, 8, 9, 10, 11, 12, 13, 14, 15, 16, 17, 18, 19], [])])]
abbrev ac_store_keyed_timed := CC.of Tryz.f137 [(3, [([0, 1, 2, 3, 4, 5, 6, 7, 8, 9, 10], [])]), (5, [([0, 1, 2, 3, 4, 5, 6, 7, 8, 9, 10, 11, 12], [])]), (6, [([0, 1, 2, 3, 4, 5, 6, 7, 8, 9, 10, 11, 12, 13], [])]), (8, [([0, 1, 2, 3, 4, 5, 6, 7, 8, 9, 10, 11], [])])]
abbrev ac_value_Do := CC.of Tryz.f138 [(13, [([0, 1, 2, 3, 4], [(0, 1)])]), (18, [([0, 1, 2, 3, 4], [(0, 1)])]), (21, [([0, 1, 2, 3, 4, 5], [(2, 1), (2, 3)])]), (24, [([0, 1, 2, 3, 4, 5], [(2, 1), (2, 3)])])]
abbrev ac_store_keyed_set := CC.of Tryz.f139 [(2, [([0, 1, 2, 3, 4, 5, 6, 7, 8, 9, 10, 11, 12, 13, 14, 15, 16, 17, 18], [(5, 13), (9, 13)])]), (3, [([0, 1, 2, 3, 4, 5, 6, 7, 8, 9, 10], [])])]
abbrev ac_slices_IndexFunc_api_Pair := CC.of Tryz.f141 []
abbrev ac_slices_IndexFunc_api_Score := CC.of Tryz.f142 []
abbrev ac_cmp_Or_int := CC.of Tryz.f143 []
abbrev ac_cmp_Compare_int := CC.of Tryz.f144 []
abbrev ac_value_rank_1 := CC.of Tryz.f146 []
abbrev ac_slices_BinarySearchFunc_api_Entry_string := CC.of Tryz.f147 []
abbrev ac_store_keyed_find_1 := CC.of Tryz.f148 []
abbrev ac_slices_Delete_api_Entry := CC.of Tryz.f149 [(5, [([0, 1, 2, 3, 4, 5, 6, 7], [])])]
abbrev ac_value_own := CC.of Tryz.f150 [(1, [([0, 1, 2, 3, 4, 5, 6, 7, 8, 9, 10, 11, 12, 13, 14], [(4, 2), (7, 2), (7, 5)])])]
abbrev ac_value_kindOf := CC.of Tryz.f151 []
abbrev ac_value_makes := CC.of Tryz.f152 []
abbrev ac_value_failed := CC.of Tryz.f153 []
abbrev ac_value_do := CC.of Tryz.f154 [(8, [([0, 1, 2, 3, 4, 5, 6, 7, 8], [])]), (10, [([0, 1, 2, 3, 4, 5, 6, 7, 8, 9], [])])]
abbrev ac_slices_Insert_api_Entry := CC.of Tryz.f155 [(11, [([0, 1, 2, 3, 4, 5, 6, 7, 8], [])]), (15, [([0, 1, 2, 3, 4, 5, 6, 7, 8], [])])]
abbrev ac_cmp_isNaN_int := CC.of Tryz.f157 []
abbrev ac_value_told := CC.of Tryz.f159 []
abbrev ac_value_all := CC.of Tryz.f160 []
abbrev ac_value_hash := CC.of Tryz.f161 [(1, [([0, 1, 2, 3, 4, 5, 6, 7, 8, 9, 10, 11, 12], [])]), (3, [([0, 1, 2, 3, 4, 5, 6, 7, 8, 9], [])]), (8, [([0, 1, 2, 3, 4, 5, 6, 7, 8, 9, 10, 11, 12, 13, 14, 15], [(4, 11)])])]
abbrev ac_value_list := CC.of Tryz.f162 [(7, [([0, 1, 2, 3, 4, 5, 6, 7, 8, 9, 10, 11], [(4, 7)])]), (10, [([0, 1, 2, 3, 4, 5, 6, 7, 8, 9, 10, 11], [(4, 7)])]), (13, [([0, 1, 2, 3, 4, 5, 6, 7, 8, 9, 10, 11, 12, 13, 14, 15, 16, 17, 18, 19], [])]), (3, [([0, 1, 2, 3, 4, 5, 6, 7, 8, 9, 10, 11, 12, 13, 14, 15], [])])]
abbrev ac_value_set := CC.of Tryz.f163 [(1, [([0, 1, 2, 3, 4, 5, 6, 7, 8, 9, 10, 11], [])]), (5, [([0, 1, 2, 3, 4, 5, 6, 7, 8, 9, 10, 11, 12], [(4, 8)])])]
abbrev ac_value_ranks := CC.of Tryz.f164 [(1, [([0, 1, 2, 3, 4, 5, 6, 7], [])]), (13, [([0, 1, 2, 3, 4, 5, 6, 7, 8, 9, 10], [])]), (14, [([0, 1, 2, 3, 4, 5, 6, 7, 8, 9, 10, 11], [(4, 7)])])]
abbrev ac_slices_BinarySearchFunc_api_Pair_api_Pair := CC.of Tryz.f167 [(5, [([0, 1, 2, 3, 4, 5, 6, 7], [])]), (8, [([0, 1, 2, 3, 4, 5, 6, 7, 8, 9, 10, 11, 12, 13, 14, 15], [])])]
abbrev ac_slices_Insert_api_Pair := CC.of Tryz.f168 [(11, [([0, 1, 2, 3, 4, 5, 6, 7, 8], [])]), (15, [([0, 1, 2, 3, 4, 5, 6, 7, 8], [])])]
abbrev ac_slices_Delete_api_Pair := CC.of Tryz.f169 [(5, [([0, 1, 2, 3, 4, 5, 6, 7], [])])]
abbrev ac_value_flag := CC.of Tryz.f170 []
abbrev ac_slices_Insert_string := CC.of Tryz.f171 [(11, [([0, 1, 2, 3, 4, 5, 6, 7, 8], [])]), (15, [([0, 1, 2, 3, 4, 5, 6, 7, 8], [])])]
abbrev ac_slices_BinarySearch_string := CC.of Tryz.f172 []
abbrev ac_slices_Delete_string := CC.of Tryz.f173 [(5, [([0, 1, 2, 3, 4, 5, 6, 7], [])])]
abbrev ac_slices_Delete_api_Score := CC.of Tryz.f174 [(5, [([0, 1, 2, 3, 4, 5, 6, 7], [])])]
abbrev ac_slices_BinarySearchFunc_api_Score_api_Score := CC.of Tryz.f175 [(5, [([0, 1, 2, 3, 4, 5, 6, 7], [])]), (8, [([0, 1, 2, 3, 4, 5, 6, 7, 8, 9, 10, 11, 12, 13, 14, 15], [])])]
abbrev ac_slices_Insert_api_Score := CC.of Tryz.f176 [(11, [([0, 1, 2, 3, 4, 5, 6, 7, 8], [])]), (15, [([0, 1, 2, 3, 4, 5, 6, 7, 8], [])])]
abbrev ac_cmp_Less_string := CC.of Tryz.f182 []
abbrev ac_slices_isNaN_string := CC.of Tryz.f183 []
abbrev ac_cmp_isNaN_string := CC.of Tryz.f189 []
end Go.Proofs.YtpdcfljbabpakaaGreatDoor
set_option linter.unusedVariables false
set_option linter.unusedSimpArgs false
set_option maxRecDepth 100000
set_option maxHeartbeats 8000000
namespace Go.Proofs.YtpdcfljbabpakaaGreatDoor
open Go Go.RowKit Go.Proofs.AE
theorem mixed : Tryz.prog.follows .mixedOrders = true := by kernel_rfl
variable {G : Nat → AV}
abbrev iV (n : Int) : AV := .one (.v (.lit (.int .i64 n)))
abbrev sV (s : ByteArray) : AV := .one (.v (.lit (.string s)))
abbrev bV (b : Bool) : AV := .one (.v (.lit (.bool b)))
abbrev iC (n : Int) : C := .v (.lit (.int .i64 n))
abbrev sC (s : ByteArray) : C := .v (.lit (.string s))
def okField (s : ByteArray) : Bool := decide (1 ≤ (s.size : Int)) && decide ((s.size : Int) ≤ 12)
def okText (s : ByteArray) : Bool := decide ((s.size : Int) ≤ 20)
def okCount (n : Int) : Bool := decide (-1099511627776 ≤ n) && decide (n ≤ 1099511627776)
def okNumber (n : Int) : Bool := decide (1 ≤ n) && decide (n ≤ 1048576)
theorem number_c (n : Int) : PCall Tryz.prog G 101 [iV n] (bV (okNumber n)) := by
  refine pcallc mixed Tryz.func101 ac_client_number ?_
  unfold okNumber
  simp -dsimp [go_sem]
  refine Cnd.intro (fun h => ?_) (fun h => ?_) <;> simp -dsimp [go_sem, h]
theorem field_c (s : ByteArray) : PCall Tryz.prog G 119 [sV s] (bV (okField s)) := by
  refine pcallc mixed Tryz.func119 ac_value_field ?_
  unfold okField
  simp -dsimp [go_sem]
  refine Cnd.intro (fun h => ?_) (fun h => ?_) <;> simp -dsimp [go_sem, h]
theorem text_c (s : ByteArray) : PCall Tryz.prog G 115 [sV s] (bV (okText s)) := by
  refine pcallc mixed Tryz.func115 ac_value_text ?_
  unfold okText
  simp -dsimp [go_sem]
theorem count_c (n : Int) : PCall Tryz.prog G 122 [iV n] (bV (okCount n)) := by
  refine pcallc mixed Tryz.func122 ac_value_count ?_
  unfold okCount
  simp -dsimp [go_sem]
  refine Cnd.intro (fun h => ?_) (fun h => ?_) <;> simp -dsimp [go_sem, h]
def pk (n m : Int) : Int := (if n < 0 then -(n + 1) else n).tmod m
theorem pk_range {n m : Int} (hm : 0 < m) : 0 ≤ pk n m ∧ pk n m < m := by
  unfold pk
  have h0 : 0 ≤ (if n < 0 then -(n + 1) else n) := by split <;> omega
  rw [Int.tmod_eq_emod_of_nonneg h0]
  exact ⟨Int.emod_nonneg _ (by omega), Int.emod_lt_of_pos _ hm⟩
def i64 (n : Int) : Prop := -9223372036854775808 ≤ n ∧ n ≤ 9223372036854775807
theorem picked_c (n m : Int) (hn : i64 n) (hm : m ≠ 0) : PCall Tryz.prog G 17 [iV n, iV m] (iV (pk n m)) := by
  refine pcallc mixed Tryz.func17 ac_rostrumkeep_picked ?_
  unfold pk
  unfold i64 at hn
  simp -dsimp [go_sem]
  refine Cnd.intro (fun h => ?_) (fun h => ?_)
  · simp at h
    simp -dsimp [go_sem, h, hm]
    rw [IntWalk.i64_in (n + 1) (by omega), IntWalk.i64_in _ (by omega), Int.neg_tmod]
  · simp at h
    have h' : ¬ n < 0 := by omega
    simp -dsimp [go_sem, h', hm]
def formOk (k : Int) (key field text : ByteArray) (n : Int) : Bool :=
  (k != 22 || decide (key = ⟨#[]⟩)) && ((k == 4 || k == 5 || k == 6) || decide (field = ⟨#[]⟩)) && ((k == 1 || k == 4 || k == 7 || k == 8 || k == 11 || k == 12 || k == 13 || k == 14 || k == 15 || k == 16) || decide (text = ⟨#[]⟩)) && ((k == 3 || k == 14 || k == 20) || n == 0)
def checkCommand (k : Int) (key field text : ByteArray) (n : Int) : Int :=
  if k < 1 then 3 else if 22 < k then 3 else if formOk k key field text n = false then 8
  else if (k != 22 && !okField key || ((k == 4 || k == 5 || k == 6) && !okField field)) || !okText text then 1
  else if okCount n = false then 2 else 0
theorem check1_c (key field text : ByteArray) (n : Int) : PCall Tryz.prog G 102 [.agg [iC 1, sC key, sC field, sC text, iC n]] (iV (checkCommand 1 key field text n)) := by
  refine pcallc mixed Tryz.func102 ac_value_CheckCommand ?_
  repeat' (first | (with_reducible first | refine Cn (fun h => ?_) fun h => ?_ | refine And.intro ?_ ?_ | refine wR ?_ | exact wr _ _ | refine wa ?_ | apply awp_join | refine q (field_c _) ?_ | refine qd (field_c _) ?_ | refine qz (field_c _) ?_ | refine q (text_c _) ?_ | refine qd (text_c _) ?_ | refine qz (text_c _) ?_ | refine q (count_c _) ?_ | refine qd (count_c _) ?_ | refine qz (count_c _) ?_) | (with_reducible refine CallZ.z ?_) | simp -dsimp [go_sem])
  all_goals (try simp_all [checkCommand, formOk])
  all_goals (intros; first | (simp_all; done) | trace_state)
theorem check2_c (key field text : ByteArray) (n : Int) : PCall Tryz.prog G 102 [.agg [iC 2, sC key, sC field, sC text, iC n]] (iV (checkCommand 2 key field text n)) := by
  refine pcallc mixed Tryz.func102 ac_value_CheckCommand ?_
  repeat' (first | (with_reducible first | refine Cn (fun h => ?_) fun h => ?_ | refine And.intro ?_ ?_ | refine wR ?_ | exact wr _ _ | refine wa ?_ | apply awp_join | refine q (field_c _) ?_ | refine qd (field_c _) ?_ | refine qz (field_c _) ?_ | refine q (text_c _) ?_ | refine qd (text_c _) ?_ | refine qz (text_c _) ?_ | refine q (count_c _) ?_ | refine qd (count_c _) ?_ | refine qz (count_c _) ?_) | (with_reducible refine CallZ.z ?_) | simp -dsimp [go_sem])
  all_goals (try simp_all [checkCommand, formOk])
  all_goals (intros; first | (simp_all; done) | trace_state)
theorem check3_c (key field text : ByteArray) (n : Int) : PCall Tryz.prog G 102 [.agg [iC 3, sC key, sC field, sC text, iC n]] (iV (checkCommand 3 key field text n)) := by
  refine pcallc mixed Tryz.func102 ac_value_CheckCommand ?_
  repeat' (first | (with_reducible first | refine Cn (fun h => ?_) fun h => ?_ | refine And.intro ?_ ?_ | refine wR ?_ | exact wr _ _ | refine wa ?_ | apply awp_join | refine q (field_c _) ?_ | refine qd (field_c _) ?_ | refine qz (field_c _) ?_ | refine q (text_c _) ?_ | refine qd (text_c _) ?_ | refine qz (text_c _) ?_ | refine q (count_c _) ?_ | refine qd (count_c _) ?_ | refine qz (count_c _) ?_) | (with_reducible refine CallZ.z ?_) | simp -dsimp [go_sem])
  all_goals (try simp_all [checkCommand, formOk])
  all_goals (intros; first | (simp_all; done) | trace_state)
theorem check4_c (key field text : ByteArray) (n : Int) : PCall Tryz.prog G 102 [.agg [iC 4, sC key, sC field, sC text, iC n]] (iV (checkCommand 4 key field text n)) := by
  refine pcallc mixed Tryz.func102 ac_value_CheckCommand ?_
  repeat' (first | (with_reducible first | refine Cn (fun h => ?_) fun h => ?_ | refine And.intro ?_ ?_ | refine wR ?_ | exact wr _ _ | refine wa ?_ | apply awp_join | refine q (field_c _) ?_ | refine qd (field_c _) ?_ | refine qz (field_c _) ?_ | refine q (text_c _) ?_ | refine qd (text_c _) ?_ | refine qz (text_c _) ?_ | refine q (count_c _) ?_ | refine qd (count_c _) ?_ | refine qz (count_c _) ?_) | (with_reducible refine CallZ.z ?_) | simp -dsimp [go_sem])
  all_goals (try simp_all [checkCommand, formOk])
  all_goals (intros; first | (simp_all; done) | trace_state)
theorem check5_c (key field text : ByteArray) (n : Int) : PCall Tryz.prog G 102 [.agg [iC 5, sC key, sC field, sC text, iC n]] (iV (checkCommand 5 key field text n)) := by
  refine pcallc mixed Tryz.func102 ac_value_CheckCommand ?_
  repeat' (first | (with_reducible first | refine Cn (fun h => ?_) fun h => ?_ | refine And.intro ?_ ?_ | refine wR ?_ | exact wr _ _ | refine wa ?_ | apply awp_join | refine q (field_c _) ?_ | refine qd (field_c _) ?_ | refine qz (field_c _) ?_ | refine q (text_c _) ?_ | refine qd (text_c _) ?_ | refine qz (text_c _) ?_ | refine q (count_c _) ?_ | refine qd (count_c _) ?_ | refine qz (count_c _) ?_) | (with_reducible refine CallZ.z ?_) | simp -dsimp [go_sem])
  all_goals (try simp_all [checkCommand, formOk])
  all_goals (intros; first | (simp_all; done) | trace_state)
theorem check6_c (key field text : ByteArray) (n : Int) : PCall Tryz.prog G 102 [.agg [iC 6, sC key, sC field, sC text, iC n]] (iV (checkCommand 6 key field text n)) := by
  refine pcallc mixed Tryz.func102 ac_value_CheckCommand ?_
  repeat' (first | (with_reducible first | refine Cn (fun h => ?_) fun h => ?_ | refine And.intro ?_ ?_ | refine wR ?_ | exact wr _ _ | refine wa ?_ | apply awp_join | refine q (field_c _) ?_ | refine qd (field_c _) ?_ | refine qz (field_c _) ?_ | refine q (text_c _) ?_ | refine qd (text_c _) ?_ | refine qz (text_c _) ?_ | refine q (count_c _) ?_ | refine qd (count_c _) ?_ | refine qz (count_c _) ?_) | (with_reducible refine CallZ.z ?_) | simp -dsimp [go_sem])
  all_goals (try simp_all [checkCommand, formOk])
  all_goals (intros; first | (simp_all; done) | trace_state)
theorem check7_c (key field text : ByteArray) (n : Int) : PCall Tryz.prog G 102 [.agg [iC 7, sC key, sC field, sC text, iC n]] (iV (checkCommand 7 key field text n)) := by
  refine pcallc mixed Tryz.func102 ac_value_CheckCommand ?_
  repeat' (first | (with_reducible first | refine Cn (fun h => ?_) fun h => ?_ | refine And.intro ?_ ?_ | refine wR ?_ | exact wr _ _ | refine wa ?_ | apply awp_join | refine q (field_c _) ?_ | refine qd (field_c _) ?_ | refine qz (field_c _) ?_ | refine q (text_c _) ?_ | refine qd (text_c _) ?_ | refine qz (text_c _) ?_ | refine q (count_c _) ?_ | refine qd (count_c _) ?_ | refine qz (count_c _) ?_) | (with_reducible refine CallZ.z ?_) | simp -dsimp [go_sem])
  all_goals (try simp_all [checkCommand, formOk])
  all_goals (intros; first | (simp_all; done) | trace_state)
theorem check8_c (key field text : ByteArray) (n : Int) : PCall Tryz.prog G 102 [.agg [iC 8, sC key, sC field, sC text, iC n]] (iV (checkCommand 8 key field text n)) := by
  refine pcallc mixed Tryz.func102 ac_value_CheckCommand ?_
  repeat' (first | (with_reducible first | refine Cn (fun h => ?_) fun h => ?_ | refine And.intro ?_ ?_ | refine wR ?_ | exact wr _ _ | refine wa ?_ | apply awp_join | refine q (field_c _) ?_ | refine qd (field_c _) ?_ | refine qz (field_c _) ?_ | refine q (text_c _) ?_ | refine qd (text_c _) ?_ | refine qz (text_c _) ?_ | refine q (count_c _) ?_ | refine qd (count_c _) ?_ | refine qz (count_c _) ?_) | (with_reducible refine CallZ.z ?_) | simp -dsimp [go_sem])
  all_goals (try simp_all [checkCommand, formOk])
  all_goals (intros; first | (simp_all; done) | trace_state)
theorem check9_c (key field text : ByteArray) (n : Int) : PCall Tryz.prog G 102 [.agg [iC 9, sC key, sC field, sC text, iC n]] (iV (checkCommand 9 key field text n)) := by
  refine pcallc mixed Tryz.func102 ac_value_CheckCommand ?_
  repeat' (first | (with_reducible first | refine Cn (fun h => ?_) fun h => ?_ | refine And.intro ?_ ?_ | refine wR ?_ | exact wr _ _ | refine wa ?_ | apply awp_join | refine q (field_c _) ?_ | refine qd (field_c _) ?_ | refine qz (field_c _) ?_ | refine q (text_c _) ?_ | refine qd (text_c _) ?_ | refine qz (text_c _) ?_ | refine q (count_c _) ?_ | refine qd (count_c _) ?_ | refine qz (count_c _) ?_) | (with_reducible refine CallZ.z ?_) | simp -dsimp [go_sem])
  all_goals (try simp_all [checkCommand, formOk])
  all_goals (intros; first | (simp_all; done) | trace_state)
theorem check10_c (key field text : ByteArray) (n : Int) : PCall Tryz.prog G 102 [.agg [iC 10, sC key, sC field, sC text, iC n]] (iV (checkCommand 10 key field text n)) := by
  refine pcallc mixed Tryz.func102 ac_value_CheckCommand ?_
  repeat' (first | (with_reducible first | refine Cn (fun h => ?_) fun h => ?_ | refine And.intro ?_ ?_ | refine wR ?_ | exact wr _ _ | refine wa ?_ | apply awp_join | refine q (field_c _) ?_ | refine qd (field_c _) ?_ | refine qz (field_c _) ?_ | refine q (text_c _) ?_ | refine qd (text_c _) ?_ | refine qz (text_c _) ?_ | refine q (count_c _) ?_ | refine qd (count_c _) ?_ | refine qz (count_c _) ?_) | (with_reducible refine CallZ.z ?_) | simp -dsimp [go_sem])
  all_goals (try simp_all [checkCommand, formOk])
  all_goals (intros; first | (simp_all; done) | trace_state)
theorem check11_c (key field text : ByteArray) (n : Int) : PCall Tryz.prog G 102 [.agg [iC 11, sC key, sC field, sC text, iC n]] (iV (checkCommand 11 key field text n)) := by
  refine pcallc mixed Tryz.func102 ac_value_CheckCommand ?_
  repeat' (first | (with_reducible first | refine Cn (fun h => ?_) fun h => ?_ | refine And.intro ?_ ?_ | refine wR ?_ | exact wr _ _ | refine wa ?_ | apply awp_join | refine q (field_c _) ?_ | refine qd (field_c _) ?_ | refine qz (field_c _) ?_ | refine q (text_c _) ?_ | refine qd (text_c _) ?_ | refine qz (text_c _) ?_ | refine q (count_c _) ?_ | refine qd (count_c _) ?_ | refine qz (count_c _) ?_) | (with_reducible refine CallZ.z ?_) | simp -dsimp [go_sem])
  all_goals (try simp_all [checkCommand, formOk])
  all_goals (intros; first | (simp_all; done) | trace_state)
theorem check12_c (key field text : ByteArray) (n : Int) : PCall Tryz.prog G 102 [.agg [iC 12, sC key, sC field, sC text, iC n]] (iV (checkCommand 12 key field text n)) := by
  refine pcallc mixed Tryz.func102 ac_value_CheckCommand ?_
  repeat' (first | (with_reducible first | refine Cn (fun h => ?_) fun h => ?_ | refine And.intro ?_ ?_ | refine wR ?_ | exact wr _ _ | refine wa ?_ | apply awp_join | refine q (field_c _) ?_ | refine qd (field_c _) ?_ | refine qz (field_c _) ?_ | refine q (text_c _) ?_ | refine qd (text_c _) ?_ | refine qz (text_c _) ?_ | refine q (count_c _) ?_ | refine qd (count_c _) ?_ | refine qz (count_c _) ?_) | (with_reducible refine CallZ.z ?_) | simp -dsimp [go_sem])
  all_goals (try simp_all [checkCommand, formOk])
  all_goals (intros; first | (simp_all; done) | trace_state)
theorem check13_c (key field text : ByteArray) (n : Int) : PCall Tryz.prog G 102 [.agg [iC 13, sC key, sC field, sC text, iC n]] (iV (checkCommand 13 key field text n)) := by
  refine pcallc mixed Tryz.func102 ac_value_CheckCommand ?_
  repeat' (first | (with_reducible first | refine Cn (fun h => ?_) fun h => ?_ | refine And.intro ?_ ?_ | refine wR ?_ | exact wr _ _ | refine wa ?_ | apply awp_join | refine q (field_c _) ?_ | refine qd (field_c _) ?_ | refine qz (field_c _) ?_ | refine q (text_c _) ?_ | refine qd (text_c _) ?_ | refine qz (text_c _) ?_ | refine q (count_c _) ?_ | refine qd (count_c _) ?_ | refine qz (count_c _) ?_) | (with_reducible refine CallZ.z ?_) | simp -dsimp [go_sem])
  all_goals (try simp_all [checkCommand, formOk])
  all_goals (intros; first | (simp_all; done) | trace_state)
theorem check14_c (key field text : ByteArray) (n : Int) : PCall Tryz.prog G 102 [.agg [iC 14, sC key, sC field, sC text, iC n]] (iV (checkCommand 14 key field text n)) := by
  refine pcallc mixed Tryz.func102 ac_value_CheckCommand ?_
  repeat' (first | (with_reducible first | refine Cn (fun h => ?_) fun h => ?_ | refine And.intro ?_ ?_ | refine wR ?_ | exact wr _ _ | refine wa ?_ | apply awp_join | refine q (field_c _) ?_ | refine qd (field_c _) ?_ | refine qz (field_c _) ?_ | refine q (text_c _) ?_ | refine qd (text_c _) ?_ | refine qz (text_c _) ?_ | refine q (count_c _) ?_ | refine qd (count_c _) ?_ | refine qz (count_c _) ?_) | (with_reducible refine CallZ.z ?_) | simp -dsimp [go_sem])
  all_goals (try simp_all [checkCommand, formOk])
  all_goals (intros; first | (simp_all; done) | trace_state)
theorem check15_c (key field text : ByteArray) (n : Int) : PCall Tryz.prog G 102 [.agg [iC 15, sC key, sC field, sC text, iC n]] (iV (checkCommand 15 key field text n)) := by
  refine pcallc mixed Tryz.func102 ac_value_CheckCommand ?_
  repeat' (first | (with_reducible first | refine Cn (fun h => ?_) fun h => ?_ | refine And.intro ?_ ?_ | refine wR ?_ | exact wr _ _ | refine wa ?_ | apply awp_join | refine q (field_c _) ?_ | refine qd (field_c _) ?_ | refine qz (field_c _) ?_ | refine q (text_c _) ?_ | refine qd (text_c _) ?_ | refine qz (text_c _) ?_ | refine q (count_c _) ?_ | refine qd (count_c _) ?_ | refine qz (count_c _) ?_) | (with_reducible refine CallZ.z ?_) | simp -dsimp [go_sem])
  all_goals (try simp_all [checkCommand, formOk])
  all_goals (intros; first | (simp_all; done) | trace_state)
theorem check16_c (key field text : ByteArray) (n : Int) : PCall Tryz.prog G 102 [.agg [iC 16, sC key, sC field, sC text, iC n]] (iV (checkCommand 16 key field text n)) := by
  refine pcallc mixed Tryz.func102 ac_value_CheckCommand ?_
  repeat' (first | (with_reducible first | refine Cn (fun h => ?_) fun h => ?_ | refine And.intro ?_ ?_ | refine wR ?_ | exact wr _ _ | refine wa ?_ | apply awp_join | refine q (field_c _) ?_ | refine qd (field_c _) ?_ | refine qz (field_c _) ?_ | refine q (text_c _) ?_ | refine qd (text_c _) ?_ | refine qz (text_c _) ?_ | refine q (count_c _) ?_ | refine qd (count_c _) ?_ | refine qz (count_c _) ?_) | (with_reducible refine CallZ.z ?_) | simp -dsimp [go_sem])
  all_goals (try simp_all [checkCommand, formOk])
  all_goals (intros; first | (simp_all; done) | trace_state)
theorem check17_c (key field text : ByteArray) (n : Int) : PCall Tryz.prog G 102 [.agg [iC 17, sC key, sC field, sC text, iC n]] (iV (checkCommand 17 key field text n)) := by
  refine pcallc mixed Tryz.func102 ac_value_CheckCommand ?_
  repeat' (first | (with_reducible first | refine Cn (fun h => ?_) fun h => ?_ | refine And.intro ?_ ?_ | refine wR ?_ | exact wr _ _ | refine wa ?_ | apply awp_join | refine q (field_c _) ?_ | refine qd (field_c _) ?_ | refine qz (field_c _) ?_ | refine q (text_c _) ?_ | refine qd (text_c _) ?_ | refine qz (text_c _) ?_ | refine q (count_c _) ?_ | refine qd (count_c _) ?_ | refine qz (count_c _) ?_) | (with_reducible refine CallZ.z ?_) | simp -dsimp [go_sem])
  all_goals (try simp_all [checkCommand, formOk])
  all_goals (intros; first | (simp_all; done) | trace_state)
theorem check18_c (key field text : ByteArray) (n : Int) : PCall Tryz.prog G 102 [.agg [iC 18, sC key, sC field, sC text, iC n]] (iV (checkCommand 18 key field text n)) := by
  refine pcallc mixed Tryz.func102 ac_value_CheckCommand ?_
  repeat' (first | (with_reducible first | refine Cn (fun h => ?_) fun h => ?_ | refine And.intro ?_ ?_ | refine wR ?_ | exact wr _ _ | refine wa ?_ | apply awp_join | refine q (field_c _) ?_ | refine qd (field_c _) ?_ | refine qz (field_c _) ?_ | refine q (text_c _) ?_ | refine qd (text_c _) ?_ | refine qz (text_c _) ?_ | refine q (count_c _) ?_ | refine qd (count_c _) ?_ | refine qz (count_c _) ?_) | (with_reducible refine CallZ.z ?_) | simp -dsimp [go_sem])
  all_goals (try simp_all [checkCommand, formOk])
  all_goals (intros; first | (simp_all; done) | trace_state)
theorem check19_c (key field text : ByteArray) (n : Int) : PCall Tryz.prog G 102 [.agg [iC 19, sC key, sC field, sC text, iC n]] (iV (checkCommand 19 key field text n)) := by
  refine pcallc mixed Tryz.func102 ac_value_CheckCommand ?_
  repeat' (first | (with_reducible first | refine Cn (fun h => ?_) fun h => ?_ | refine And.intro ?_ ?_ | refine wR ?_ | exact wr _ _ | refine wa ?_ | apply awp_join | refine q (field_c _) ?_ | refine qd (field_c _) ?_ | refine qz (field_c _) ?_ | refine q (text_c _) ?_ | refine qd (text_c _) ?_ | refine qz (text_c _) ?_ | refine q (count_c _) ?_ | refine qd (count_c _) ?_ | refine qz (count_c _) ?_) | (with_reducible refine CallZ.z ?_) | simp -dsimp [go_sem])
  all_goals (try simp_all [checkCommand, formOk])
  all_goals (intros; first | (simp_all; done) | trace_state)
theorem check20_c (key field text : ByteArray) (n : Int) : PCall Tryz.prog G 102 [.agg [iC 20, sC key, sC field, sC text, iC n]] (iV (checkCommand 20 key field text n)) := by
  refine pcallc mixed Tryz.func102 ac_value_CheckCommand ?_
  repeat' (first | (with_reducible first | refine Cn (fun h => ?_) fun h => ?_ | refine And.intro ?_ ?_ | refine wR ?_ | exact wr _ _ | refine wa ?_ | apply awp_join | refine q (field_c _) ?_ | refine qd (field_c _) ?_ | refine qz (field_c _) ?_ | refine q (text_c _) ?_ | refine qd (text_c _) ?_ | refine qz (text_c _) ?_ | refine q (count_c _) ?_ | refine qd (count_c _) ?_ | refine qz (count_c _) ?_) | (with_reducible refine CallZ.z ?_) | simp -dsimp [go_sem])
  all_goals (try simp_all [checkCommand, formOk])
  all_goals (intros; first | (simp_all; done) | trace_state)
theorem check21_c (key field text : ByteArray) (n : Int) : PCall Tryz.prog G 102 [.agg [iC 21, sC key, sC field, sC text, iC n]] (iV (checkCommand 21 key field text n)) := by
  refine pcallc mixed Tryz.func102 ac_value_CheckCommand ?_
  repeat' (first | (with_reducible first | refine Cn (fun h => ?_) fun h => ?_ | refine And.intro ?_ ?_ | refine wR ?_ | exact wr _ _ | refine wa ?_ | apply awp_join | refine q (field_c _) ?_ | refine qd (field_c _) ?_ | refine qz (field_c _) ?_ | refine q (text_c _) ?_ | refine qd (text_c _) ?_ | refine qz (text_c _) ?_ | refine q (count_c _) ?_ | refine qd (count_c _) ?_ | refine qz (count_c _) ?_) | (with_reducible refine CallZ.z ?_) | simp -dsimp [go_sem])
  all_goals (try simp_all [checkCommand, formOk])
  all_goals (intros; first | (simp_all; done) | trace_state)
theorem check22_c (key field text : ByteArray) (n : Int) : PCall Tryz.prog G 102 [.agg [iC 22, sC key, sC field, sC text, iC n]] (iV (checkCommand 22 key field text n)) := by
  refine pcallc mixed Tryz.func102 ac_value_CheckCommand ?_
  repeat' (first | (with_reducible first | refine Cn (fun h => ?_) fun h => ?_ | refine And.intro ?_ ?_ | refine wR ?_ | exact wr _ _ | refine wa ?_ | apply awp_join | refine q (field_c _) ?_ | refine qd (field_c _) ?_ | refine qz (field_c _) ?_ | refine q (text_c _) ?_ | refine qd (text_c _) ?_ | refine qz (text_c _) ?_ | refine q (count_c _) ?_ | refine qd (count_c _) ?_ | refine qz (count_c _) ?_) | (with_reducible refine CallZ.z ?_) | simp -dsimp [go_sem])
  all_goals (try simp_all [checkCommand, formOk])
  all_goals (intros; first | (simp_all; done) | trace_state)
theorem check_c (k : Int) (key field text : ByteArray) (n : Int) : PCall Tryz.prog G 102 [.agg [iC k, sC key, sC field, sC text, iC n]] (iV (checkCommand k key field text n)) := by
  have hk : k < 1 ∨ 22 < k ∨ k = 1 ∨ k = 2 ∨ k = 3 ∨ k = 4 ∨ k = 5 ∨ k = 6 ∨ k = 7 ∨ k = 8 ∨ k = 9 ∨ k = 10 ∨ k = 11 ∨ k = 12 ∨ k = 13 ∨ k = 14 ∨ k = 15 ∨ k = 16 ∨ k = 17 ∨ k = 18 ∨ k = 19 ∨ k = 20 ∨ k = 21 ∨ k = 22 := by omega
  rcases hk with hk | hk | rfl | rfl | rfl | rfl | rfl | rfl | rfl | rfl | rfl | rfl | rfl | rfl | rfl | rfl | rfl | rfl | rfl | rfl | rfl | rfl | rfl | rfl
  · refine pcallc mixed Tryz.func102 ac_value_CheckCommand ?_
    simp -dsimp [go_sem, hk, checkCommand]
  · refine pcallc mixed Tryz.func102 ac_value_CheckCommand ?_
    have h' : ¬ k < 1 := by omega
    simp -dsimp [go_sem, hk, h', checkCommand]
  · exact check1_c key field text n
  · exact check2_c key field text n
  · exact check3_c key field text n
  · exact check4_c key field text n
  · exact check5_c key field text n
  · exact check6_c key field text n
  · exact check7_c key field text n
  · exact check8_c key field text n
  · exact check9_c key field text n
  · exact check10_c key field text n
  · exact check11_c key field text n
  · exact check12_c key field text n
  · exact check13_c key field text n
  · exact check14_c key field text n
  · exact check15_c key field text n
  · exact check16_c key field text n
  · exact check17_c key field text n
  · exact check18_c key field text n
  · exact check19_c key field text n
  · exact check20_c key field text n
  · exact check21_c key field text n
  · exact check22_c key field text n
end Go.Proofs.YtpdcfljbabpakaaGreatDoor
set_option linter.unusedVariables false
set_option linter.unusedSimpArgs false
set_option maxRecDepth 100000
set_option maxHeartbeats 8000000
namespace Go.Proofs.YtpdcfljbabpakaaGreatDoor
open Go Go.RowKit Go.Proofs.AE
variable {G : Nat → AV}
end Go.Proofs.YtpdcfljbabpakaaGreatDoor
set_option linter.unusedVariables false
set_option linter.unusedSimpArgs false
namespace Go.Proofs.AE
open Go Go.RowKit
section
variable {P : Program} {k : Nat} {s : S}
def frSub (fr : List (Nat × AV)) : List (Nat × AV) → Prop
  | [] => True
  | (t, v) :: r => v = getF fr t ∧ frSub fr r
attribute [go_sem] frSub
theorem frSub_get {fr : List (Nat × AV)} : ∀ {fr' : List (Nat × AV)}, frSub fr fr' → ∀ t, getF fr' t = .any ∨ getF fr' t = getF fr t
  | [], _, t => .inl rfl
  | (u, v) :: r, ⟨h1, h2⟩, t => by
    simp only [getF]
    by_cases hu : u = t
    · subst hu; rw [if_pos rfl]; exact .inr h1
    · rw [if_neg hu]; exact frSub_get h2 t
theorem weak_fr {s' : S} (hg : s'.gl = s.gl) (hh : s'.hp = s.hp) (hf : frSub s.fr s'.fr) : Weak k s s' := by
  refine ⟨hg, fun n w ok μ a hst => ⟨ok, μ, ⟨hh ▸ hst.hr, hst.size, hst.defers, fun t => ?_, hg ▸ hst.gl⟩, by rw [hh]; exact (Step.refl hst.hr).far⟩⟩
  rcases frSub_get hf t with h | h
  · rw [h]; exact .any
  · rw [h]; exact hst.fr t
theorem awp_join {alts : List (List AOp × List (Nat × Nat))} {Q : Exit → S → Prop} (s0 : S) (h : allAlts P s (fun s' => Weak k s' s0) alts) (hq : Q .normal s0) : awp P k (.regD alts) Q s :=
  allAlts_mono (fun _ h => ⟨s0, h, hq⟩) h
theorem least {p : Nat → Prop} (h : ∃ n, p n) : ∃ n, p n ∧ ∀ m, p m → n ≤ m := by
  obtain ⟨n, hn⟩ := h
  induction n using Nat.strongRecOn with
  | _ n ih =>
    by_cases h : ∃ m, m < n ∧ p m
    · obtain ⟨m, h1, h2⟩ := h; exact ih m h1 h2
    · exact ⟨n, hn, fun m hm => Nat.le_of_not_lt fun hlt => h ⟨m, hlt, hm⟩⟩
def Again {σ : Type} (k : Nat) (st : σ → S) (A : σ → Prop) (m : σ → Nat) (x : σ) (s' : S) : Prop := ∃ x', Weak k s' (st x') ∧ A x' ∧ m x' < m x
theorem Again.fr {σ : Type} {st : σ → S} {A : σ → Prop} {m : σ → Nat} {x : σ} {s' : S} (x' : σ) (hg : (st x').gl = s'.gl) (hh : (st x').hp = s'.hp) (hf : frSub s'.fr (st x').fr) (hA : A x') (hm : m x' < m x) : Again k st A m x s' :=
  ⟨x', weak_fr hg hh hf, hA, hm⟩
theorem Again.view {σ : Type} {st : σ → S} {A : σ → Prop} {m : σ → Nat} {x : σ} {s' : S} (x' : σ) (F ρ : List Nat) (hg : (st x').gl = s'.gl) (hlen : ρ.length = (st x').hp.length) (hnd : ρ.Nodup) (hF : ∀ i, i ∈ F → i ∉ ρ)
    (hf : coeF s'.hp F ρ s'.fr (st x').fr) (hh : coeH s'.hp F ρ 0 (st x').hp) (hA : A x') (hm : m x' < m x) : Again 0 st A m x s' :=
  ⟨x', weak_of F ρ hg hlen hnd hF (fun i h => by omega) hf hh, hA, hm⟩
theorem Again.auto {σ : Type} {st : σ → S} {A : σ → Prop} {m : σ → Nat} {x : σ} {s' : S} (x' : σ) (hw : WA k s' (st x')) (hA : A x') (hm : m x' < m x) : Again k st A m x s' := ⟨x', weak_auto hw, hA, hm⟩
def LoopH (P : Program) (k : Nat) (c : ACode) (Q : Exit → S → Prop) (s : S) (_ : Held c) (_ : Held Q) : Prop := awp P k (.loop c) Q s
@[go_sem ↓] theorem awp_loop' {c : ACode} {Q : Exit → S → Prop} : awp P k (.loop c) Q s = LoopH P k c Q s ⟨⟩ ⟨⟩ := rfl
theorem awp_loop {σ : Type} (st : σ → S) (A : σ → Prop) (m : σ → Nat) {c : ACode} {Q : Exit → S → Prop} (x0 : σ) (h0 : Weak k s (st x0)) (hA : A x0)
    (hb : ∀ x, A x → awp P k c (thenA (Again k st A m x) Q) (st x)) {a : Held c} {b : Held Q} : LoopH P k c Q s a b := by
  unfold LoopH
  classical
  let I : S → Prop := fun s => ∃ x, A x ∧ s = st x
  have hex : ∀ s, I s → ∃ n, ∃ x, A x ∧ s = st x ∧ m x = n := fun s ⟨x, h1, h2⟩ => ⟨m x, x, h1, h2, rfl⟩
  let f : S → Nat := fun s => if h : I s then Classical.choose (least (hex s h)) else 0
  have hf : ∀ s, I s → (∃ x, A x ∧ s = st x ∧ m x = f s) ∧ ∀ x, A x → s = st x → f s ≤ m x := by
    intro s hs
    have hsp := Classical.choose_spec (least (hex s hs))
    have hfs : f s = Classical.choose (least (hex s hs)) := dif_pos hs
    rw [hfs]
    exact ⟨hsp.1, fun x h1 h2 => hsp.2 _ ⟨x, h1, h2, rfl⟩⟩
  refine ⟨I, f, ⟨st x0, h0, x0, hA, rfl⟩, fun s hs => ?_⟩
  obtain ⟨x, h1, h2, h3⟩ := (hf s hs).1
  have hbx := hb x h1
  rw [← h2] at hbx
  refine awp_mono (fun e s' he => ?_) hbx
  cases e with
  | normal =>
    obtain ⟨x', q1, q2, q3⟩ := he
    refine ⟨st x', q1, ⟨x', q2, rfl⟩, ?_⟩
    rw [← h3]
    exact Nat.lt_of_le_of_lt ((hf _ ⟨x', q2, rfl⟩).2 x' q2 rfl) q3
  | _ => exact he
end
end Go.Proofs.AE
set_option linter.unusedVariables false
set_option linter.unusedSimpArgs false
set_option maxRecDepth 100000
set_option maxHeartbeats 8000000
namespace Go.Proofs.YtpdcfljbabpakaaGreatDoor
open Go Go.RowKit Go.Proofs.AE
variable {G : Nat → AV}
abbrev strRows (l : List ByteArray) : List (List V) := l.map fun s => [V.lit (.string s)]
def firstIdx (p : ByteArray → Bool) : Nat → List ByteArray → Int
  | _, [] => -1
  | i, s :: l => if p s then (i : Int) else firstIdx p (i + 1) l
theorem firstIdx_drop (p : ByteArray → Bool) (l : List ByteArray) {i : Nat} (h : i < l.length) : firstIdx p i (l.drop i) = if p l[i] then (i : Int) else firstIdx p (i + 1) (l.drop (i + 1)) := by
  rw [List.drop_eq_getElem_cons h]; rfl
theorem indexFunc_c (g : Nat) (p : ByteArray → Bool) (l : List ByteArray) (hl : (l.length : Int) ≤ 9223372036854775807) (he : enters Tryz.prog g = true) (hp : ∀ s, PCall Tryz.prog G g [sV s] (bV (p s))) :
    PCall Tryz.prog G 131 [.one (.v (.sl (strRows l))), .fn g [] []] (iV (firstIdx p 0 l)) := by
  refine pcallc mixed Tryz.func131 ac_slices_IndexFunc_string ?_
  simp -dsimp [go_sem]
  refine awp_loop (fun i : Nat => ⟨[(0, .one (.v (.sl (strRows l)))), (1, .fn g [] []), (7, iV l.length), (8, iV i)], G, []⟩) (fun i => i ≤ l.length ∧ firstIdx p 0 l = firstIdx p i (l.drop i)) (fun i => l.length - i) 0 (weak_auto ?_) ⟨Nat.zero_le _, rfl⟩ ?_
  · simp -dsimp [go_sem]
  · rintro i ⟨hi, hx⟩
    rw [hx]
    simp -dsimp [go_sem]
    refine Cnd.intro (fun h => ?_) (fun h => ?_)
    · have hlt : i < l.length := by simpa using h
      have hgi : (strRows l)[i]? = some [V.lit (.string l[i])] := by simp [strRows, hlt]
      simp -dsimp [go_sem, hgi, he]
      refine CallZ.l ((hp l[i]).kf rfl ?_)
      simp -dsimp [go_sem]
      rw [firstIdx_drop p l hlt]
      refine Cnd.intro (fun h => ?_) (fun h => ?_)
      · simp -dsimp [go_sem, h]
      · simp -dsimp [go_sem]
        have h' : p l[i] = false := by simpa using h
        rw [h']
        refine Again.auto (i + 1) ?_ ⟨hlt, rfl⟩ (by omega)
        rw [IntWalk.i64_in _ (by omega)]
        simp -dsimp [go_sem]
    · have hge : ¬ i < l.length := by simpa using h
      have : i = l.length := by omega
      simp -dsimp [go_sem, firstIdx, this]
theorem firstIdx_ge (p : ByteArray → Bool) : ∀ (l : List ByteArray) (i : Nat), (decide (0 ≤ firstIdx p i l)) = l.any p
  | [], _ => by simp [firstIdx]
  | s :: l, i => by
    simp only [firstIdx, List.any_cons]
    by_cases h : p s = true
    · simp [h]
    · have h' : p s = false := by simpa using h
      simpa [h'] using firstIdx_ge p l (i + 1)
theorem containsFunc_c (g : Nat) (p : ByteArray → Bool) (l : List ByteArray) (hl : (l.length : Int) ≤ 9223372036854775807) (he : enters Tryz.prog g = true) (hp : ∀ s, PCall Tryz.prog G g [sV s] (bV (p s))) :
    PCall Tryz.prog G 99 [.one (.v (.sl (strRows l))), .fn g [] []] (bV (l.any p)) := by
  refine pcallc mixed Tryz.func99 ac_slices_ContainsFunc_string ?_
  simp -dsimp [go_sem]
  refine CallZ.l ((indexFunc_c g p l hl he hp).kf rfl ?_)
  rw [← firstIdx_ge p l 0]
  simp -dsimp [go_sem]
theorem longText_c (s : ByteArray) : PCall Tryz.prog G 100 [sV s] (bV (decide (20 < (s.size : Int)))) := by
  refine pcallc mixed Tryz.func100 ac_client_CheckReply_1 ?_
  simp -dsimp [go_sem]
def checkReply (code : Int) (text : ByteArray) (n : Int) (l : List ByteArray) : Int :=
  if decide (code < 0) then 3 else if decide (13 < code) then 3 else if decide (20 < (text.size : Int)) then 1 else if decide (20 < (l.length : Int)) then 1
  else if l.any (fun s => decide (20 < (s.size : Int))) then 1 else if decide (n < -1099511627776) then 2 else if decide (1099511627776 < n) then 2 else 0
theorem checkReply_c (code : Int) (text : ByteArray) (n : Int) (l : List ByteArray) : PCall Tryz.prog G 78 [.agg [iC code, sC text, iC n, .v (.sl (strRows l))]] (iV (checkReply code text n l)) := by
  refine pcallc mixed Tryz.func78 ac_client_CheckReply ?_
  repeat' (first | (with_reducible first | refine Cn (fun h => ?_) fun h => ?_ | refine And.intro ?_ ?_ | refine wR ?_ | exact wr _ _ | refine wa ?_ | apply awp_join | refine q1 (by exact containsFunc_c _ _ l (by simp_all <;> omega) en100 longText_c) ?_ | refine q1d (by exact containsFunc_c _ _ l (by simp_all <;> omega) en100 longText_c) ?_) | (with_reducible refine CallZ.z ?_) | simp -dsimp [go_sem])
  all_goals ((try simp only [Bool.not_true, Bool.not_false] at *); simp only [checkReply, *]; rfl)
end Go.Proofs.YtpdcfljbabpakaaGreatDoor
set_option linter.unusedVariables false
set_option linter.unusedSimpArgs false
set_option maxRecDepth 100000
set_option maxHeartbeats 8000000
namespace Go.Proofs.YtpdcfljbabpakaaGreatDoor
open Go Go.RowKit Go.Proofs.AE
variable {G : Nat → AV}
def cmpB (a b : ByteArray) : Int := Lib.compareBytes a.data.toList b.data.toList
theorem compareString_w (a b : ByteArray) (w : World) :
    Calls Tryz.prog 145 #[.string a, .string b] w fun e w' => e = .returned (.int .i64 (cmpB a b)) ∧ w' = w := by
  go_enter Tryz.func145, Tryz.ntmps145
  go_wp2
  rw [run_callFunc_extern Tryz.func158 (by kernel_rfl) (by kernel_rfl) (by kernel_rfl) (e := Extern.BytealgCompare.compare) (by kernel_rfl), Lib.run_compareString]
  simp only [Result.andThen]
  rw [Oper.upon_value]
  go_wp2
  go_ret
  exact ⟨rfl, rfl⟩
theorem compareString_c (a b : ByteArray) : PCall Tryz.prog G 145 [sV a, sV b] (iV (cmpB a b)) := by
  intro w ok μ xs hr hg hargs
  cases hargs with | cons h1 ht =>
  cases ht with | cons h2 ht =>
  cases ht
  have e1 := lit_rel h1
  have e2 := lit_rel h2
  subst e1; subst e2
  refine (compareString_w a b w).mono ?_
  rintro e w' ⟨rfl, rfl⟩
  exact ⟨_, _, _, ok, μ, rfl, Step.refl hr, avlit rfl, List.eq_nil_of_length_eq_zero (by rw [← hr.len]; exact (by have := hr.len; simpa using this)), rfl⟩
theorem stringsCompare_c (a b : ByteArray) : PCall Tryz.prog G 129 [sV a, sV b] (iV (cmpB a b)) := by
  refine pcallc mixed Tryz.func129 ac_strings_Compare ?_
  repeat' (first | (with_reducible first | refine Cn (fun h => ?_) fun h => ?_ | refine And.intro ?_ ?_ | refine wR ?_ | exact wr _ _ | refine wa ?_ | apply awp_join | refine q (compareString_c _ _) ?_ | refine qd (compareString_c _ _) ?_ | refine qz (compareString_c _ _) ?_) | (with_reducible refine CallZ.z ?_) | simp -dsimp [go_sem])
theorem isNaNi_c (a : Int) : PCall Tryz.prog G 157 [iV a] (bV false) := by
  refine pcallc mixed Tryz.func157 ac_cmp_isNaN_int ?_
  simp -dsimp [go_sem]
theorem isNaNs_c (a : ByteArray) : PCall Tryz.prog G 189 [sV a] (bV false) := by
  refine pcallc mixed Tryz.func189 ac_cmp_isNaN_string ?_
  simp -dsimp [go_sem]
theorem isNaNs2_c (a : ByteArray) : PCall Tryz.prog G 183 [sV a] (bV false) := by
  refine pcallc mixed Tryz.func183 ac_slices_isNaN_string ?_
  simp -dsimp [go_sem]
def cmpI (a b : Int) : Int := if a < b then -1 else if a > b then 1 else 0
theorem cmpInt_c (a b : Int) : PCall Tryz.prog G 144 [iV a, iV b] (iV (cmpI a b)) := by
  refine pcallc mixed Tryz.func144 ac_cmp_Compare_int ?_
  unfold cmpI
  repeat' (first | (with_reducible first | refine Cn (fun h => ?_) fun h => ?_ | refine And.intro ?_ ?_ | refine wR ?_ | exact wr _ _ | refine wa ?_ | apply awp_join | refine q (isNaNi_c _) ?_ | refine qd (isNaNi_c _) ?_ | refine qz (isNaNi_c _) ?_) | (with_reducible refine CallZ.z ?_) | simp -dsimp [go_sem])
  all_goals (simp at *)
  all_goals (repeat' split) <;> first | rfl | omega
theorem lessS_c (a b : ByteArray) : PCall Tryz.prog G 182 [sV a, sV b] (bV (Op.bytesLess a.data.toList b.data.toList)) := by
  refine pcallc mixed Tryz.func182 ac_cmp_Less_string ?_
  repeat' (first | (with_reducible first | refine Cn (fun h => ?_) fun h => ?_ | refine And.intro ?_ ?_ | refine wR ?_ | exact wr _ _ | refine wa ?_ | apply awp_join | refine q (isNaNs_c _) ?_ | refine qd (isNaNs_c _) ?_ | refine qz (isNaNs_c _) ?_) | (with_reducible refine CallZ.z ?_) | simp -dsimp [go_sem])
def insAt {α : Type} (l : List α) (i : Nat) (x : α) : List α := l.take i ++ x :: l.drop i
def delAt {α : Type} (l : List α) (i : Nat) : List α := l.take i ++ l.drop (i + 1)
end Go.Proofs.YtpdcfljbabpakaaGreatDoor
set_option linter.unusedVariables false
set_option linter.unusedSimpArgs false
set_option maxRecDepth 100000
set_option maxHeartbeats 8000000
namespace Go.Proofs.YtpdcfljbabpakaaGreatDoor
open Go Go.RowKit Go.Proofs.AE
variable {G : Nat → AV}
abbrev Pr := ByteArray × ByteArray
abbrev Sc := ByteArray × Int
abbrev row_api_Pair (p : Pr) : List V := [V.lit (.string p.1), V.lit (.string p.2)]
abbrev row_api_Score (p : Sc) : List V := [V.lit (.string p.1), V.lit (.int .i64 p.2)]
abbrev row_string (p : ByteArray) : List V := [V.lit (.string p)]
abbrev arg_api_Pair (p : Pr) : AV := .agg [sC p.1, sC p.2]
abbrev arg_api_Score (p : Sc) : AV := .agg [sC p.1, iC p.2]
abbrev arg_string (p : ByteArray) : AV := sV p
def firstI {α : Type} (p : α → Bool) : Nat → List α → Int
  | _, [] => -1
  | i, s :: l => if p s then (i : Int) else firstI p (i + 1) l
theorem firstI_drop {α : Type} (p : α → Bool) (l : List α) {i : Nat} (h : i < l.length) : firstI p i (l.drop i) = if p l[i] then (i : Int) else firstI p (i + 1) (l.drop (i + 1)) := by
  rw [List.drop_eq_getElem_cons h]; rfl
theorem firstI_ge {α : Type} (p : α → Bool) : ∀ (l : List α) (i : Nat), (decide (0 ≤ firstI p i l)) = l.any p
  | [], _ => by simp [firstI]
  | s :: l, i => by
    simp only [firstI, List.any_cons]
    by_cases h : p s = true
    · simp [h]
    · have h' : p s = false := by simpa using h
      simpa [h'] using firstI_ge p l (i + 1)
def rising {α : Type} (cmp : α → α → Int) : List α → Bool
  | a :: b :: r => decide (cmp a b < 0) && rising cmp (b :: r)
  | _ => true
theorem rising_drop {α : Type} (cmp : α → α → Int) (l : List α) {i : Nat} (h : i + 1 < l.length) : rising cmp (l.drop i) = (decide (cmp l[i] l[i + 1] < 0) && rising cmp (l.drop (i + 1))) := by
  rw [List.drop_eq_getElem_cons (by omega : i < l.length), List.drop_eq_getElem_cons h]; rfl
theorem indexFunc_api_Pair (g : Nat) (p : Pr → Bool) (l : List Pr) (hl : (l.length : Int) ≤ 9223372036854775807) (he : enters Tryz.prog g = true) (hp : ∀ s, PCall Tryz.prog G g [arg_api_Pair s] (bV (p s))) :
    PCall Tryz.prog G 141 [.one (.v (.sl (l.map row_api_Pair))), .fn g [] []] (iV (firstI p 0 l)) := by
  refine pcallc mixed Tryz.func141 ac_slices_IndexFunc_api_Pair ?_
  simp -dsimp [go_sem]
  refine awp_loop (fun i : Nat => ⟨[(0, .one (.v (.sl (l.map row_api_Pair)))), (1, .fn g [] []), (7, iV l.length), (8, iV i)], G, []⟩) (fun i => i ≤ l.length ∧ firstI p 0 l = firstI p i (l.drop i)) (fun i => l.length - i) 0 (weak_auto ?_) ⟨Nat.zero_le _, rfl⟩ ?_
  · simp -dsimp [go_sem]
  · rintro i ⟨hi, hx⟩
    rw [hx]
    simp -dsimp [go_sem]
    refine Cnd.intro (fun h => ?_) (fun h => ?_)
    · have hlt : i < l.length := by simpa using h
      have hgi : (l.map row_api_Pair)[i]? = some (row_api_Pair l[i]) := by simp [hlt]
      simp -dsimp [go_sem, hgi, he]
      refine CallZ.l ((hp l[i]).kf rfl ?_)
      simp -dsimp [go_sem]
      rw [firstI_drop p l hlt]
      refine Cnd.intro (fun h => ?_) (fun h => ?_)
      · simp -dsimp [go_sem, h]
      · simp -dsimp [go_sem]
        have h' : p l[i] = false := by simpa using h
        rw [h']
        refine Again.auto (i + 1) ?_ ⟨hlt, rfl⟩ (by omega)
        rw [IntWalk.i64_in _ (by omega)]
        simp -dsimp [go_sem]
    · have hge : ¬ i < l.length := by simpa using h
      have : i = l.length := by omega
      simp -dsimp [go_sem, firstI, this]
theorem containsFunc_api_Pair (g : Nat) (p : Pr → Bool) (l : List Pr) (hl : (l.length : Int) ≤ 9223372036854775807) (he : enters Tryz.prog g = true) (hp : ∀ s, PCall Tryz.prog G g [arg_api_Pair s] (bV (p s))) :
    PCall Tryz.prog G 117 [.one (.v (.sl (l.map row_api_Pair))), .fn g [] []] (bV (l.any p)) := by
  refine pcallc mixed Tryz.func117 ac_slices_ContainsFunc_api_Pair ?_
  simp -dsimp [go_sem]
  refine CallZ.l ((indexFunc_api_Pair g p l hl he hp).kf rfl ?_)
  rw [← firstI_ge p l 0]
  simp -dsimp [go_sem]
theorem indexFunc_api_Score (g : Nat) (p : Sc → Bool) (l : List Sc) (hl : (l.length : Int) ≤ 9223372036854775807) (he : enters Tryz.prog g = true) (hp : ∀ s, PCall Tryz.prog G g [arg_api_Score s] (bV (p s))) :
    PCall Tryz.prog G 142 [.one (.v (.sl (l.map row_api_Score))), .fn g [] []] (iV (firstI p 0 l)) := by
  refine pcallc mixed Tryz.func142 ac_slices_IndexFunc_api_Score ?_
  simp -dsimp [go_sem]
  refine awp_loop (fun i : Nat => ⟨[(0, .one (.v (.sl (l.map row_api_Score)))), (1, .fn g [] []), (7, iV l.length), (8, iV i)], G, []⟩) (fun i => i ≤ l.length ∧ firstI p 0 l = firstI p i (l.drop i)) (fun i => l.length - i) 0 (weak_auto ?_) ⟨Nat.zero_le _, rfl⟩ ?_
  · simp -dsimp [go_sem]
  · rintro i ⟨hi, hx⟩
    rw [hx]
    simp -dsimp [go_sem]
    refine Cnd.intro (fun h => ?_) (fun h => ?_)
    · have hlt : i < l.length := by simpa using h
      have hgi : (l.map row_api_Score)[i]? = some (row_api_Score l[i]) := by simp [hlt]
      simp -dsimp [go_sem, hgi, he]
      refine CallZ.l ((hp l[i]).kf rfl ?_)
      simp -dsimp [go_sem]
      rw [firstI_drop p l hlt]
      refine Cnd.intro (fun h => ?_) (fun h => ?_)
      · simp -dsimp [go_sem, h]
      · simp -dsimp [go_sem]
        have h' : p l[i] = false := by simpa using h
        rw [h']
        refine Again.auto (i + 1) ?_ ⟨hlt, rfl⟩ (by omega)
        rw [IntWalk.i64_in _ (by omega)]
        simp -dsimp [go_sem]
    · have hge : ¬ i < l.length := by simpa using h
      have : i = l.length := by omega
      simp -dsimp [go_sem, firstI, this]
theorem containsFunc_api_Score (g : Nat) (p : Sc → Bool) (l : List Sc) (hl : (l.length : Int) ≤ 9223372036854775807) (he : enters Tryz.prog g = true) (hp : ∀ s, PCall Tryz.prog G g [arg_api_Score s] (bV (p s))) :
    PCall Tryz.prog G 120 [.one (.v (.sl (l.map row_api_Score))), .fn g [] []] (bV (l.any p)) := by
  refine pcallc mixed Tryz.func120 ac_slices_ContainsFunc_api_Score ?_
  simp -dsimp [go_sem]
  refine CallZ.l ((indexFunc_api_Score g p l hl he hp).kf rfl ?_)
  rw [← firstI_ge p l 0]
  simp -dsimp [go_sem]
theorem rising_api_Pair (g : Nat) (cmp : Pr → Pr → Int) (l : List Pr) (hl : (l.length : Int) ≤ 9223372036854775806) (he : enters Tryz.prog g = true) (hp : ∀ a b, PCall Tryz.prog G g [arg_api_Pair a, arg_api_Pair b] (iV (cmp a b))) :
    PCall Tryz.prog G 124 [.one (.v (.sl (l.map row_api_Pair))), .fn g [] []] (bV (rising cmp l)) := by
  refine pcallc mixed Tryz.func124 ac_value_rising_api_Pair ?_
  simp -dsimp [go_sem]
  refine awp_loop (fun i : Nat => ⟨[(0, .one (.v (.sl (l.map row_api_Pair)))), (1, .fn g [] []), (5, iV ((i : Int) + 1))], G, []⟩) (fun i => (i = 0 ∨ i < l.length) ∧ rising cmp l = rising cmp (l.drop i)) (fun i => l.length - i) 0 (weak_auto ?_) ⟨.inl rfl, rfl⟩ ?_
  · simp -dsimp [go_sem]
  · rintro i ⟨hi, hx⟩
    rw [hx]
    have w1 : i < l.length → IntKind.i64.wrap (i : Int) = i := fun _ => IntWalk.i64_in _ (by omega)
    have w2 : IntKind.i64.wrap ((i : Int) + 1 + 1) = (i : Int) + 1 + 1 := IntWalk.i64_in _ (by omega)
    simp -dsimp [go_sem]
    refine Cnd.intro (fun h => ?_) (fun h => ?_)
    · have hlt : i + 1 < l.length := by simp at h; omega
      have w1 := w1 (by omega)
      obtain ⟨a, ha⟩ : ∃ a, l[i] = a := ⟨_, rfl⟩
      obtain ⟨b, hb⟩ : ∃ b, l[i + 1] = b := ⟨_, rfl⟩
      have hgi : l[i]? = some a := by rw [List.getElem?_eq_getElem (by omega), ha]
      have hgj : l[i + 1]? = some b := by rw [List.getElem?_eq_getElem hlt, hb]
      have t1 : ((i : Int) + 1).toNat = i + 1 := by omega
      rw [rising_drop cmp l hlt, ha, hb]
      have hc := hp a b
      repeat' (first | (with_reducible first | refine Cn (fun h => ?_) fun h => ?_ | refine And.intro ?_ ?_ | refine wR ?_ | exact wr _ _ | refine wa ?_ | apply awp_join | refine q hc ?_ | refine qd hc ?_ | refine qz hc ?_) | (with_reducible refine CallZ.z ?_) | simp -dsimp [go_sem, hgi, hgj, he, w1, w2, t1])
      all_goals first
        | omega
        | (intro h'; simp at h; omega)
        | (with_reducible refine Again.auto (i + 1) ?_ ?_ ?_)
      all_goals first
        | (simp -dsimp [go_sem]; done)
        | (refine ⟨.inr hlt, ?_⟩; simp at h; simp [h]; done)
        | (show l.length - (i + 1) < l.length - i; omega)
    · have hge : ¬ i + 1 < l.length := by simp at h; omega
      have : rising cmp (l.drop i) = true := by
        cases hd : l.drop i with
        | nil => rfl
        | cons a r =>
          cases r with
          | nil => rfl
          | cons b r =>
            have := congrArg List.length hd
            simp at this; omega
      simp -dsimp [go_sem, this]
theorem rising_api_Score (g : Nat) (cmp : Sc → Sc → Int) (l : List Sc) (hl : (l.length : Int) ≤ 9223372036854775806) (he : enters Tryz.prog g = true) (hp : ∀ a b, PCall Tryz.prog G g [arg_api_Score a, arg_api_Score b] (iV (cmp a b))) :
    PCall Tryz.prog G 126 [.one (.v (.sl (l.map row_api_Score))), .fn g [] []] (bV (rising cmp l)) := by
  refine pcallc mixed Tryz.func126 ac_value_rising_api_Score ?_
  simp -dsimp [go_sem]
  refine awp_loop (fun i : Nat => ⟨[(0, .one (.v (.sl (l.map row_api_Score)))), (1, .fn g [] []), (5, iV ((i : Int) + 1))], G, []⟩) (fun i => (i = 0 ∨ i < l.length) ∧ rising cmp l = rising cmp (l.drop i)) (fun i => l.length - i) 0 (weak_auto ?_) ⟨.inl rfl, rfl⟩ ?_
  · simp -dsimp [go_sem]
  · rintro i ⟨hi, hx⟩
    rw [hx]
    have w1 : i < l.length → IntKind.i64.wrap (i : Int) = i := fun _ => IntWalk.i64_in _ (by omega)
    have w2 : IntKind.i64.wrap ((i : Int) + 1 + 1) = (i : Int) + 1 + 1 := IntWalk.i64_in _ (by omega)
    simp -dsimp [go_sem]
    refine Cnd.intro (fun h => ?_) (fun h => ?_)
    · have hlt : i + 1 < l.length := by simp at h; omega
      have w1 := w1 (by omega)
      obtain ⟨a, ha⟩ : ∃ a, l[i] = a := ⟨_, rfl⟩
      obtain ⟨b, hb⟩ : ∃ b, l[i + 1] = b := ⟨_, rfl⟩
      have hgi : l[i]? = some a := by rw [List.getElem?_eq_getElem (by omega), ha]
      have hgj : l[i + 1]? = some b := by rw [List.getElem?_eq_getElem hlt, hb]
      have t1 : ((i : Int) + 1).toNat = i + 1 := by omega
      rw [rising_drop cmp l hlt, ha, hb]
      have hc := hp a b
      repeat' (first | (with_reducible first | refine Cn (fun h => ?_) fun h => ?_ | refine And.intro ?_ ?_ | refine wR ?_ | exact wr _ _ | refine wa ?_ | apply awp_join | refine q hc ?_ | refine qd hc ?_ | refine qz hc ?_) | (with_reducible refine CallZ.z ?_) | simp -dsimp [go_sem, hgi, hgj, he, w1, w2, t1])
      all_goals first
        | omega
        | (intro h'; simp at h; omega)
        | (with_reducible refine Again.auto (i + 1) ?_ ?_ ?_)
      all_goals first
        | (simp -dsimp [go_sem]; done)
        | (refine ⟨.inr hlt, ?_⟩; simp at h; simp [h]; done)
        | (show l.length - (i + 1) < l.length - i; omega)
    · have hge : ¬ i + 1 < l.length := by simp at h; omega
      have : rising cmp (l.drop i) = true := by
        cases hd : l.drop i with
        | nil => rfl
        | cons a r =>
          cases r with
          | nil => rfl
          | cons b r =>
            have := congrArg List.length hd
            simp at this; omega
      simp -dsimp [go_sem, this]
theorem rising_string (g : Nat) (cmp : ByteArray → ByteArray → Int) (l : List ByteArray) (hl : (l.length : Int) ≤ 9223372036854775806) (he : enters Tryz.prog g = true) (hp : ∀ a b, PCall Tryz.prog G g [arg_string a, arg_string b] (iV (cmp a b))) :
    PCall Tryz.prog G 128 [.one (.v (.sl (l.map row_string))), .fn g [] []] (bV (rising cmp l)) := by
  refine pcallc mixed Tryz.func128 ac_value_rising_string ?_
  simp -dsimp [go_sem]
  refine awp_loop (fun i : Nat => ⟨[(0, .one (.v (.sl (l.map row_string)))), (1, .fn g [] []), (5, iV ((i : Int) + 1))], G, []⟩) (fun i => (i = 0 ∨ i < l.length) ∧ rising cmp l = rising cmp (l.drop i)) (fun i => l.length - i) 0 (weak_auto ?_) ⟨.inl rfl, rfl⟩ ?_
  · simp -dsimp [go_sem]
  · rintro i ⟨hi, hx⟩
    rw [hx]
    have w1 : i < l.length → IntKind.i64.wrap (i : Int) = i := fun _ => IntWalk.i64_in _ (by omega)
    have w2 : IntKind.i64.wrap ((i : Int) + 1 + 1) = (i : Int) + 1 + 1 := IntWalk.i64_in _ (by omega)
    simp -dsimp [go_sem]
    refine Cnd.intro (fun h => ?_) (fun h => ?_)
    · have hlt : i + 1 < l.length := by simp at h; omega
      have w1 := w1 (by omega)
      obtain ⟨a, ha⟩ : ∃ a, l[i] = a := ⟨_, rfl⟩
      obtain ⟨b, hb⟩ : ∃ b, l[i + 1] = b := ⟨_, rfl⟩
      have hgi : l[i]? = some a := by rw [List.getElem?_eq_getElem (by omega), ha]
      have hgj : l[i + 1]? = some b := by rw [List.getElem?_eq_getElem hlt, hb]
      have t1 : ((i : Int) + 1).toNat = i + 1 := by omega
      rw [rising_drop cmp l hlt, ha, hb]
      have hc := hp a b
      repeat' (first | (with_reducible first | refine Cn (fun h => ?_) fun h => ?_ | refine And.intro ?_ ?_ | refine wR ?_ | exact wr _ _ | refine wa ?_ | apply awp_join | refine q hc ?_ | refine qd hc ?_ | refine qz hc ?_) | (with_reducible refine CallZ.z ?_) | simp -dsimp [go_sem, hgi, hgj, he, w1, w2, t1])
      all_goals first
        | omega
        | (intro h'; simp at h; omega)
        | (with_reducible refine Again.auto (i + 1) ?_ ?_ ?_)
      all_goals first
        | (simp -dsimp [go_sem]; done)
        | (refine ⟨.inr hlt, ?_⟩; simp at h; simp [h]; done)
        | (show l.length - (i + 1) < l.length - i; omega)
    · have hge : ¬ i + 1 < l.length := by simp at h; omega
      have : rising cmp (l.drop i) = true := by
        cases hd : l.drop i with
        | nil => rfl
        | cons a r =>
          cases r with
          | nil => rfl
          | cons b r =>
            have := congrArg List.length hd
            simp at this; omega
      simp -dsimp [go_sem, this]
end Go.Proofs.YtpdcfljbabpakaaGreatDoor
set_option linter.unusedVariables false
set_option linter.unusedSimpArgs false
set_option maxRecDepth 100000
set_option maxHeartbeats 8000000
namespace Go.Proofs.YtpdcfljbabpakaaGreatDoor
open Go Go.RowKit Go.Proofs.AE
variable {G : Nat → AV}
abbrev bF (a b : Pr) : Int := cmpB a.1 b.1
def bS (a b : Sc) : Int := if cmpI a.2 b.2 = 0 then cmpB a.1 b.1 else cmpI a.2 b.2
theorem byField_c (a b : Pr) : PCall Tryz.prog G 125 [arg_api_Pair a, arg_api_Pair b] (iV (bF a b)) := by
  refine pcallc mixed Tryz.func125 ac_value_byField ?_
  repeat' (first | (with_reducible first | refine Cn (fun h => ?_) fun h => ?_ | refine And.intro ?_ ?_ | refine wR ?_ | exact wr _ _ | refine wa ?_ | apply awp_join | refine q (stringsCompare_c _ _) ?_ | refine qd (stringsCompare_c _ _) ?_ | refine qz (stringsCompare_c _ _) ?_) | (with_reducible refine CallZ.z ?_) | simp -dsimp [go_sem])
theorem or2_c (a b : Int) : PCall Tryz.prog G 143 [.one (.v (.sl [[V.lit (.int .i64 a)], [V.lit (.int .i64 b)]]))] (iV (if a = 0 then b else a)) := by
  refine pcallc mixed Tryz.func143 ac_cmp_Or_int ?_
  simp -dsimp [go_sem]
  refine awp_loop (fun i : Nat => ⟨[(3, iV 0), (6, .one (.v (.sl [[V.lit (.int .i64 a)], [V.lit (.int .i64 b)]]))), (7, iV 2), (8, iV i)], G, []⟩) (fun i => i ≤ 2 ∧ (0 < i → a = 0) ∧ (1 < i → b = 0)) (fun i => 2 - i) 0 (weak_auto ?_) ⟨by omega, by omega, by omega⟩ ?_
  · simp -dsimp [go_sem]
  · rintro i ⟨h1, h2, h3⟩
    have hi : i = 0 ∨ i = 1 ∨ i = 2 := by omega
    rcases hi with rfl | rfl | rfl
    · by_cases h0 : a = 0
      · subst h0
        simp -dsimp [go_sem]
        refine Again.auto 1 ?_ (by simp) (by omega)
        rw [IntWalk.i64_in _ (by omega)]
        simp -dsimp [go_sem]
      · have h0' : (a != 0) = true := by simpa using h0
        simp -dsimp [go_sem, h0, h0']
    · have h0 := h2 (by omega)
      subst h0
      by_cases h0 : b = 0
      · subst h0
        simp -dsimp [go_sem]
        refine Again.auto 2 ?_ (by simp) (by omega)
        rw [IntWalk.i64_in _ (by omega)]
        simp -dsimp [go_sem]
      · have h0' : (b != 0) = true := by simpa using h0
        simp -dsimp [go_sem, h0, h0']
    · have h0 := h2 (by omega)
      have h0' := h3 (by omega)
      subst h0; subst h0'
      simp -dsimp [go_sem]
theorem byScore_c (a b : Sc) : PCall Tryz.prog G 127 [arg_api_Score a, arg_api_Score b] (iV (bS a b)) := by
  refine pcallc mixed Tryz.func127 ac_value_byScore ?_
  unfold bS
  repeat' (first | (with_reducible first | refine Cn (fun h => ?_) fun h => ?_ | refine And.intro ?_ ?_ | refine wR ?_ | exact wr _ _ | refine wa ?_ | apply awp_join | refine q (cmpInt_c _ _) ?_ | refine qd (cmpInt_c _ _) ?_ | refine qz (cmpInt_c _ _) ?_ | refine q (stringsCompare_c _ _) ?_ | refine qd (stringsCompare_c _ _) ?_ | refine qz (stringsCompare_c _ _) ?_ | refine q (or2_c _ _) ?_ | refine qd (or2_c _ _) ?_ | refine qz (or2_c _ _) ?_) | (with_reducible refine CallZ.z ?_) | simp -dsimp [go_sem])
def rankOf (l : List Sc) (m : ByteArray) : Int := firstI (fun s => decide (s.1 = m)) 0 l
theorem rankFn_c (m : ByteArray) (s : Sc) : DetCall Tryz.prog G 146 1 [some (.box 9 [sC m])] [arg_api_Score s, .one (.ptr 0 0)] (bV (decide (s.1 = m))) [some (.box 9 [sC m])] := by
  refine gcallc mixed Tryz.func146 ac_value_rank_1 ?_
  repeat' (first | (with_reducible first | refine Cn (fun h => ?_) fun h => ?_ | refine And.intro ?_ ?_ | refine wR ?_ | exact wr _ _ | refine wa ?_ | apply awp_join) | (with_reducible refine CallZ.z ?_) | simp -dsimp [go_sem])
theorem indexRank_c (m : ByteArray) (l : List Sc) (hl : (l.length : Int) ≤ 9223372036854775807) : DetCall Tryz.prog G 142 1 [some (.box 9 [sC m])] [.one (.v (.sl (l.map row_api_Score))), .fn 146 [] [.ptr 0 0]] (iV (rankOf l m)) [some (.box 9 [sC m])] := by
  unfold rankOf
  generalize hp : (fun s : Sc => decide (s.1 = m)) = p
  have hpp : ∀ s : Sc, decide (s.1 = m) = p s := fun s => by rw [← hp]
  refine gcallc mixed Tryz.func142 ac_slices_IndexFunc_api_Score ?_
  simp -dsimp [go_sem]
  refine awp_loop (fun i : Nat => ⟨[(0, .one (.v (.sl (l.map row_api_Score)))), (1, .fn 146 [] [.ptr 0 0]), (7, iV l.length), (8, iV i)], G, [some (.box 9 [sC m])]⟩) (fun i => i ≤ l.length ∧ firstI p 0 l = firstI p i (l.drop i)) (fun i => l.length - i) 0 (weak_auto ?_) ⟨Nat.zero_le _, rfl⟩ ?_
  · simp -dsimp [go_sem]
  · rintro i ⟨hi, hx⟩
    rw [hx]
    simp -dsimp [go_sem]
    refine Cnd.intro (fun h => ?_) (fun h => ?_)
    · have hlt : i < l.length := by simpa using h
      obtain ⟨a, ha⟩ : ∃ a, l[i] = a := ⟨_, rfl⟩
      have hgi : l[i]? = some a := by rw [List.getElem?_eq_getElem (by omega), ha]
      have hc := rankFn_c (G := G) m a
      rw [hpp] at hc
      rw [firstI_drop p l hlt, ha]
      have w1 : IntKind.i64.wrap ((i : Int) + 1) = (i : Int) + 1 := IntWalk.i64_in _ (by omega)
      repeat' (first | (with_reducible first | refine Cn (fun h => ?_) fun h => ?_ | refine And.intro ?_ ?_ | refine wR ?_ | exact wr _ _ | refine wa ?_ | apply awp_join | refine qg hc ?_ | refine qgd hc ?_) | (with_reducible refine CallZ.z ?_) | simp -dsimp [go_sem, hgi, w1, en146])
      all_goals first
        | (with_reducible refine Again.auto (i + 1) ?_ ?_ ?_)
        | (simp_all; done)
        | skip
      all_goals first
        | (simp -dsimp [go_sem]; done)
        | (refine ⟨hlt, ?_⟩; simp_all; done)
        | (show l.length - (i + 1) < l.length - i; omega)
    · have hge : ¬ i < l.length := by simpa using h
      have : i = l.length := by omega
      simp -dsimp [go_sem, firstI, this]
theorem rank_c (m : ByteArray) (l : List Sc) (hl : (l.length : Int) ≤ 9223372036854775807) : PCall Tryz.prog G 130 [.one (.v (.sl (l.map row_api_Score))), sV m] (iV (rankOf l m)) := by
  refine pcallc mixed Tryz.func130 ac_value_rank ?_
  repeat' (first | (with_reducible first | refine Cn (fun h => ?_) fun h => ?_ | refine And.intro ?_ ?_ | refine wR ?_ | exact wr _ _ | refine wa ?_ | apply awp_join | refine qg (indexRank_c m l hl) ?_ | refine qgd (indexRank_c m l hl) ?_) | (with_reducible refine CallZ.z ?_) | simp -dsimp [go_sem])
structure Val where
  kind : Int
  text : ByteArray
  count : Int
  pairs : List Pr
  items : List ByteArray
  scores : List Sc
abbrev pR (l : List Pr) : List (List V) := l.map row_api_Pair
abbrev sR (l : List Sc) : List (List V) := l.map row_api_Score
def Val.c (v : Val) : List C := [iC v.kind, sC v.text, iC v.count, .v (.sl (pR v.pairs)), .v (.sl (strRows v.items)), .v (.sl (sR v.scores))]
def Val.els (v : Val) : Int := (v.pairs.length : Int) + v.items.length + v.scores.length
theorem elements_c (k n : Int) (t : ByteArray) (p i s : List (List V)) (h : p.length + i.length + s.length ≤ 1000000) : PCall Tryz.prog G 114 [.agg [iC k, sC t, iC n, .v (.sl p), .v (.sl i), .v (.sl s)]] (iV ((p.length + i.length + s.length : Nat) : Int)) := by
  have e1 : IntKind.i64.wrap ((p.length : Int) + i.length) = (p.length : Int) + i.length := IntWalk.i64_in _ (by omega)
  have e2 : IntKind.i64.wrap ((p.length : Int) + i.length + s.length) = (p.length : Int) + i.length + s.length := IntWalk.i64_in _ (by omega)
  refine pcallc mixed Tryz.func114 ac_value_elements ?_
  repeat' (first | (with_reducible first | refine Cn (fun h => ?_) fun h => ?_ | refine And.intro ?_ ?_ | refine wR ?_ | exact wr _ _ | refine wa ?_ | apply awp_join) | (with_reducible refine CallZ.z ?_) | simp -dsimp [go_sem, e1, e2])
def longS (s : ByteArray) : Bool := !okText s
def badP (p : Pr) : Bool := !okField p.1 || !okText p.2
def longM (s : Sc) : Bool := !okText s.1
def farN (s : Sc) : Bool := !okCount s.2
theorem checkFn1_c (s : ByteArray) : PCall Tryz.prog G 116 [sV s] (bV (longS s)) := by
  refine pcallc mixed Tryz.func116 ac_value_Check_1 ?_
  unfold longS
  repeat' (first | (with_reducible first | refine Cn (fun h => ?_) fun h => ?_ | refine And.intro ?_ ?_ | refine wR ?_ | exact wr _ _ | refine wa ?_ | apply awp_join | refine q (text_c _) ?_ | refine qd (text_c _) ?_ | refine qz (text_c _) ?_) | (with_reducible refine CallZ.z ?_) | simp -dsimp [go_sem])
theorem checkFn2_c (p : Pr) : PCall Tryz.prog G 118 [arg_api_Pair p] (bV (badP p)) := by
  refine pcallc mixed Tryz.func118 ac_value_Check_2 ?_
  unfold badP
  repeat' (first | (with_reducible first | refine Cn (fun h => ?_) fun h => ?_ | refine And.intro ?_ ?_ | refine wR ?_ | exact wr _ _ | refine wa ?_ | apply awp_join | refine q (text_c _) ?_ | refine qd (text_c _) ?_ | refine qz (text_c _) ?_ | refine q (field_c _) ?_ | refine qd (field_c _) ?_ | refine qz (field_c _) ?_ | refine q (text_c _) ?_ | refine qd (text_c _) ?_ | refine qz (text_c _) ?_ | refine q (field_c _) ?_ | refine qd (field_c _) ?_ | refine qz (field_c _) ?_) | (with_reducible refine CallZ.z ?_) | simp -dsimp [go_sem])
  all_goals simp_all
theorem checkFn3_c (s : Sc) : PCall Tryz.prog G 121 [arg_api_Score s] (bV (longM s)) := by
  refine pcallc mixed Tryz.func121 ac_value_Check_3 ?_
  unfold longM
  repeat' (first | (with_reducible first | refine Cn (fun h => ?_) fun h => ?_ | refine And.intro ?_ ?_ | refine wR ?_ | exact wr _ _ | refine wa ?_ | apply awp_join | refine q (text_c _) ?_ | refine qd (text_c _) ?_ | refine qz (text_c _) ?_) | (with_reducible refine CallZ.z ?_) | simp -dsimp [go_sem])
theorem checkFn4_c (s : Sc) : PCall Tryz.prog G 123 [arg_api_Score s] (bV (farN s)) := by
  refine pcallc mixed Tryz.func123 ac_value_Check_4 ?_
  unfold farN
  repeat' (first | (with_reducible first | refine Cn (fun h => ?_) fun h => ?_ | refine And.intro ?_ ?_ | refine wR ?_ | exact wr _ _ | refine wa ?_ | apply awp_join | refine q (count_c _) ?_ | refine qd (count_c _) ?_ | refine qz (count_c _) ?_) | (with_reducible refine CallZ.z ?_) | simp -dsimp [go_sem])
def onceB (l : List Sc) (i : Nat) : Bool := (List.range i).all fun j => match l[j]? with | some s => decide (rankOf (l.take j) s.1 < 0) | none => true
theorem onceB_succ (l : List Sc) {i : Nat} {s : Sc} (h : l[i]? = some s) : onceB l (i + 1) = (onceB l i && decide (rankOf (l.take i) s.1 < 0)) := by
  unfold onceB
  rw [List.range_succ, List.all_append]
  simp [h]
def Val.bad (v : Val) : Bool := (v.kind != 1 && decide (v.text ≠ ⟨#[]⟩)) || (v.kind != 2 && decide (v.count ≠ 0)) || decide (0 < (if v.kind = 3 then 0 else (v.pairs.length : Int)) + (if v.kind = 4 ∨ v.kind = 5 then 0 else (v.items.length : Int)) + (if v.kind = 6 then 0 else (v.scores.length : Int)))
def Val.ord (v : Val) : Bool := rising bF v.pairs && rising bS v.scores && (decide (v.kind ≠ 5) || rising cmpB v.items)
def Val.order (v : Val) : Bool := v.ord && onceB v.scores v.scores.length
theorem ul_s (l : List Sc) : UL 2 (sR l) := by
  intro r hr
  obtain ⟨y, _, rfl⟩ := List.mem_map.1 hr
  rfl
def checkV (v : Val) : Int :=
  if v.kind < 1 then 3 else if 6 < v.kind then 3 else if v.bad = true then 8
  else if 3 ≤ v.kind ∧ (v.els < 1 ∨ 20 < v.els) then 1
  else if (!okText v.text || v.items.any longS) = true then 1
  else if v.pairs.any badP = true then 1
  else if v.scores.any longM = true then 1
  else if (!okCount v.count || v.scores.any farN) = true then 2
  else if v.order = true then 0 else 10
def Val.Small (v : Val) : Prop := v.pairs.length ≤ 1000 ∧ v.items.length ≤ 1000 ∧ v.scores.length ≤ 1000
end Go.Proofs.YtpdcfljbabpakaaGreatDoor
