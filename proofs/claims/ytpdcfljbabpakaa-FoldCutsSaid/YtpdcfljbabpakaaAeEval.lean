/- The abstract evaluator: AeEval. -/
import Derived.Test.YtpdcfljbabpakaaAeM4
/- The abstract evaluator, part 16: the rules by which simp runs it. -/
set_option linter.unusedVariables false
set_option linter.unusedSimpArgs false
namespace Go.Proofs.AE
open Go Go.RowKit

attribute [go_sem] aop aopH aopJ exOp mapOp mpLen mpLook mpFind arjOpG hasArj arjOp arjNewG arjNew sliceSub srcJ narrowR thawR aopC aopL aopD aopDH stables pureOp heapOp callOf pickOf nilTest S.eval S.put getF cAV cV vC niceB bl binAV binV binI binS isShift eqCells unAV convAV rowsOf lenAV mkAV loadAV fieldAddrAV fieldAV intOfAV indexAddrAV indexAV boundAV sliceRows sliceAV minmaxI
  avC avCs cellsAV buildAV placesOf elemOk boxCells vsOf partRows srcRows isStrSh TI.isAgg thenA blockA finQ FinX retAV resVs resV enterF
  frz frz1 frF frAV frAVs frC frB arsOf arsAV arsCs opsOf aop1 BorK FrzK
  mpGet mpAdd mC mCs mAV mAVs mF mB mO mH mkρ idMp memB nodupB idB complB WA WA2 OA OA2 FinG finG invρ invρ.go callρ arsAVs dropF renC renAV renAVs renO posOf sig mrg mergeH coeF coeH coeB

attribute [go_sem] Option.map_some Option.map_none List.map_cons List.map_nil List.length_cons List.length_nil List.getElem?_cons_zero List.getElem?_cons_succ List.getElem?_nil List.drop_succ_cons List.drop_zero List.drop_nil List.take_succ_cons List.take_zero List.take_nil
  List.nil_append List.cons_append List.append_nil List.set_cons_zero List.set_cons_succ List.isEmpty_cons List.isEmpty_nil

attribute [go_sem] subH subO nrmO nrmCs nrmC nrmAV nrmAVs inC inCs inAV inAVs inO inH callChk allLt

section
variable {P : Program} {k : Nat} {Q : Exit → S → Prop} {s : S}
theorem awp_seq_k {a b : ACode} (h : ∀ N : S → Prop, (∀ s, awp P k b Q s → N s) → awp P k a (thenA N Q) s) : awp P k (.seq a b) Q s := h _ fun _ h => h
theorem awp_seq {a b : ACode} (h : awp P k a (thenA (awp P k b Q) Q) s) : awp P k (.seq a b) Q s := h
theorem awp_reg {ops : List AOp} (h : aops P ops s (Q .normal)) : awp P k (.reg ops) Q s := h
theorem awp_reg_k {ops : List AOp} (h : ∀ N : S → Prop, (∀ s, Q .normal s → N s) → aops P ops s N) : awp P k (.reg ops) Q s := h _ fun _ h => h
@[go_sem ↓] theorem awp_reg' {ops : List AOp} : awp P k (.reg ops) Q s = aops P ops s (Q .normal) := rfl
@[go_sem ↓ low] theorem awp_regD' {al : List AOp} {ps : List (Nat × Nat)} : awp P k (.regD [(al, ps)]) Q s = aopsD P al [] s (fun h s' => stables P al (s :: h) ps ∧ Wk k s' (Q .normal) ⟨⟩) := by simp [awp, allAlts]
@[go_sem ↓] theorem awp_seq' {a b : ACode} : awp P k (.seq a b) Q s = awp P k a (thenA (awp P k b Q) Q) s := rfl
@[go_sem ↓] theorem aops_nil' {K : S → Prop} : aops P [] s K = K s := rfl
@[go_sem ↓] theorem aops_cons' {o : AOp} {os : List AOp} {K : S → Prop} : aops P (o :: os) s K = match o.g with
    | none => aop P o s fun s' => aops P os s' K
    | some (t, want) => match getF s.fr t with
      | .one (.v (.lit (.bool b))) => Cnd b want (s.put (some t) (bl want)) ((s.put (some t) (bl (!want))).put o.dst (.tup [])) (fun s => aop P o s fun s' => aops P os s' K) (fun s => aops P os s K) ⟨⟩ ⟨⟩
      | .tup [] => aops P os (s.put o.dst (.tup [])) K
      | _ => False := rfl
@[go_sem ↓] theorem aopsD_nil' {h : List S} {K : List S → S → Prop} : aopsD P [] h s K = K h s := rfl
@[go_sem ↓] theorem aopsD_cons' {o : AOp} {os : List AOp} {h : List S} {K : List S → S → Prop} : aopsD P (o :: os) h s K = match o.g with
    | none => aopD P o s fun s' => aopsD P os (h ++ [s']) s' K
    | some (t, want) => match getF s.fr t with
      | .one (.v (.lit (.bool b))) => Cnd b want (s.put (some t) (bl want)) ((s.put (some t) (bl (!want))).put o.dst (.tup [])) (fun s => aopD P o s fun s' => aopsD P os (h ++ [s']) s' K) (fun s => aopsD P os (h ++ [s]) s K) ⟨⟩ ⟨⟩
      | .tup [] => aopsD P os (h ++ [s.put o.dst (.tup [])]) (s.put o.dst (.tup [])) K
      | _ => False := rfl
@[go_sem ↓] theorem allAlts_nil' {K : S → Prop} : allAlts P s K [] = True := rfl
@[go_sem ↓ low] theorem allAlts_cons' {al : List AOp} {ps : List (Nat × Nat)} {r : List (List AOp × List (Nat × Nat))} {K : S → Prop} : allAlts P s K ((al, ps) :: r) = (aopsD P al [] s (fun h s' => stables P al (s :: h) ps ∧ K s') ∧ allAlts P s K r) := rfl
/-- A region whose order is open, where no read hangs on an effect: without the states on the way. -/
def aopsE (P : Program) : List AOp → S → (S → Prop) → Prop
  | [], s, K => K s
  | o :: os, s, K =>
    match o.g with
    | none => aopD P o s fun s' => aopsE P os s' K
    | some (t, want) => match getF s.fr t with
      | .one (.v (.lit (.bool b))) => Cnd b want (s.put (some t) (bl want)) ((s.put (some t) (bl (!want))).put o.dst (.tup [])) (fun s => aopD P o s fun s' => aopsE P os s' K) (fun s => aopsE P os s K) ⟨⟩ ⟨⟩
      | .tup [] => aopsE P os (s.put o.dst (.tup [])) K
      | _ => False
theorem aopsE_eq : ∀ (l : List AOp) (h : List S) (s : S) (K : S → Prop), aopsD P l h s (fun _ s' => K s') = aopsE P l s K
  | [], _, _, _ => rfl
  | o :: os, h, s, K => by
    have ih : ∀ h s, aopsD P os h s (fun _ s' => K s') = aopsE P os s K := fun h s => aopsE_eq os h s K
    have hA : (fun s => aopD P o s fun s' => aopsD P os (h ++ [s']) s' fun _ s' => K s') = (fun s => aopD P o s fun s' => aopsE P os s' K) := by funext s; simp only [ih]
    have hB : (fun s => aopsD P os (h ++ [s]) s fun _ s' => K s') = (fun s => aopsE P os s K) := by funext s; simp only [ih]
    unfold aopsD aopsE
    rw [hA, hB]
    simp only [ih]
    rfl
@[go_sem ↓] theorem aopsE_nil' {K : S → Prop} : aopsE P [] s K = K s := rfl
@[go_sem ↓] theorem aopsE_cons' {o : AOp} {os : List AOp} {K : S → Prop} : aopsE P (o :: os) s K = match o.g with
    | none => aopD P o s fun s' => aopsE P os s' K
    | some (t, want) => match getF s.fr t with
      | .one (.v (.lit (.bool b))) => Cnd b want (s.put (some t) (bl want)) ((s.put (some t) (bl (!want))).put o.dst (.tup [])) (fun s => aopD P o s fun s' => aopsE P os s' K) (fun s => aopsE P os s K) ⟨⟩ ⟨⟩
      | .tup [] => aopsE P os (s.put o.dst (.tup [])) K
      | _ => False := rfl
theorem aopsE_true {al : List AOp} {h : List S} {K : S → Prop} : aopsD P al h s (fun h s' => stables P al (s :: h) [] ∧ K s') = aopsE P al s K := by
  rw [← aopsE_eq al h]
  congr 1
  funext h s'
  simp [stables]
@[go_sem ↓] theorem awp_regE' {al : List AOp} : awp P k (.regD [(al, [])]) Q s = aopsE P al s (fun s' => Wk k s' (Q .normal) ⟨⟩) := by simp only [awp, allAlts, and_true]; exact aopsE_true
@[go_sem ↓] theorem allAlts_consE' {al : List AOp} {K : S → Prop} {r : List (List AOp × List (Nat × Nat))} : allAlts P s K ((al, []) :: r) = (aopsE P al s K ∧ allAlts P s K r) := by simp only [allAlts]; rw [aopsE_true]
@[go_sem ↓] theorem awp_skip' : awp P k .skip Q s = Q .normal s := rfl
@[go_sem ↓] theorem awp_ret' : awp P k .ret Q s = Q .ret s := rfl
@[go_sem ↓] theorem awp_exit' {id : Nat} : awp P k (.exit id) Q s = Q (.exit id) s := rfl
@[go_sem ↓] theorem awp_block' {id : Nat} {c : ACode} : awp P k (.block id c) Q s = awp P k c (blockA id Q) s := rfl
@[go_sem ↓] theorem awp_cond' {c : Operand} {t e : ACode} : awp P k (.cond c t e) Q s = match s.eval c with
    | .one (.v (.lit (.bool b))) => Cnd b true s s (awp P k t Q) (awp P k e Q) ⟨⟩ ⟨⟩
    | _ => False := rfl

/-- A whole function of plain data. -/
theorem pcall_of (hm : P.follows .mixedOrders = true) {G : Nat → AV} {f : Nat} {fn : Func} {ac : ACode} {args : List AV} {r : AV} {rs : List ResultVar} (hf : P.funcs[f]? = some fn) (hc : fn.body.bind (comp fn.ntmps) = some ac) (hrs : fn.results.toList = rs) (hn : args.length ≤ fn.ntmps)
    (h : awp P 0 ac (finQ P 0 rs fun r' hp' => hp' = [] ∧ r' = r) ⟨enterF 0 args, G, []⟩) : PCall P G f args r := by
  obtain ⟨c, hb, hc⟩ := Option.bind_eq_some_iff.1 hc
  subst hrs
  exact acall_of hm hf hb hc hn h

theorem fin_intro {hp : Hp} {r0 : AV} {K : AV → Hp → Prop} {r : AV} (h : coeAV hp [] [] r r0) (hk : K r []) : ∃ r hp', Out 0 hp r0 hp' r ∧ K r hp' := ⟨r, [], out_of [] [] rfl .nil (fun _ _ h => by cases h) (fun i h => by omega) h trivial, hk⟩

/-- The end: what goes out is plain. -/
theorem out_plain {hp : Hp} {r0 r : AV} {F : List Nat} (h : coeAV hp F [] r r0) : Out 0 hp r0 [] r :=
  out_of F [] rfl .nil (fun _ _ h => by cases h) (fun i h => by omega) h trivial
theorem fin_plain {hp : Hp} {r0 r : AV} (h : coeAV hp [] [] r r0) : ∃ r' hp', Out 0 hp r0 hp' r' ∧ hp' = [] ∧ r' = r := ⟨r, [], out_plain h, rfl, rfl⟩
attribute [go_sem] coeAV coeAVs coeC coeCs
end
end Go.Proofs.AE

