/- The abstract evaluator, part 15c: which block stands for which one: found by the evaluator itself. -/
import Derived.Test.YtniihihcklpdgaaAeGCall
set_option linter.unusedVariables false
set_option linter.unusedSimpArgs false
namespace Go.Proofs.AE
open Go Go.RowKit

/-- New numbers and the elder ones that they stand for. -/
abbrev Mp := List (Nat × Nat)
def mpGet : Mp → Nat → Option Nat
  | [], _ => none
  | (a, b) :: r, i => bif a == i then some b else mpGet r i
def mpAdd (m : Mp) (i j : Nat) : Mp := match mpGet m i with | some _ => m | none => (i, j) :: m
def mC : Mp → C → C → Mp
  | m, .ptr i _, .ptr j _ => mpAdd m i j
  | m, .eptr i _ _ _, .eptr j _ _ _ => mpAdd m i j
  | m, .ar i, .ar j => mpAdd m i j
  | m, .sub i _ _ _, .sub j _ _ _ => mpAdd m i j
  | m, _, _ => m
def mCs : Mp → List C → List C → Mp
  | m, c :: cs, d :: ds => mCs (mC m c d) cs ds
  | m, _, _ => m
mutual
def mAV : Mp → AV → AV → Mp
  | m, .one c, .one d => mC m c d
  | m, .agg cs, .agg ds => mCs m cs ds
  | m, .tup l, .tup l' => mAVs m l l'
  | m, .fn _ a b, .fn _ c d => mCs (mCs m a c) b d
  | m, _, _ => m
def mAVs : Mp → List AV → List AV → Mp
  | m, v :: l, u :: l' => mAVs (mAV m v u) l l'
  | m, _, _ => m
end
def mF : Mp → List (Nat × AV) → List (Nat × AV) → Mp
  | m, (t, v) :: r, fr => mF (mAV m v (getF fr t)) r fr
  | m, [], _ => m
def mB : Mp → Blk → Blk → Mp
  | m, .box _ cs, .box _ ds => mCs m cs ds
  | m, _, _ => m
def mO (m : Mp) (b : Blk) : Option (Option Blk) → Mp
  | some (some b') => mB m b b'
  | _ => m
def mH (hpS : Hp) : Nat → Hp → Mp → Mp
  | _, [], m => m
  | i, none :: r, m => mH hpS (i + 1) r m
  | i, some b :: r, m => mH hpS (i + 1) r (match mpGet m i with | some j => mO m b hpS[j]? | none => m)
def mkρ (m : Mp) (d : Nat) : Nat → Hp → List Nat
  | _, [] => []
  | i, _ :: r => (mpGet m i).getD (d + i) :: mkρ m d (i + 1) r
def idMp : Nat → Mp
  | 0 => []
  | k + 1 => (k, k) :: idMp k
def memB (i : Nat) : List Nat → Bool
  | [] => false
  | a :: r => a == i || memB i r
def nodupB : List Nat → Bool
  | [] => true
  | a :: r => !memB a r && nodupB r
def idB (k : Nat) : Nat → List Nat → Bool
  | _, [] => true
  | i, j :: r => (decide (k ≤ i) || i == j) && idB k (i + 1) r
def complB (ρ : List Nat) : Nat → Hp → List Nat
  | _, [] => []
  | i, _ :: r => bif memB i ρ then complB ρ (i + 1) r else i :: complB ρ (i + 1) r
def allLt (n : Nat) : List Nat → Bool
  | [] => true
  | a :: r => decide (a < n) && allLt n r

theorem memB_iff {i : Nat} : ∀ {l : List Nat}, memB i l = true ↔ i ∈ l
  | [] => by simp [memB]
  | a :: r => by
    simp only [memB, Bool.or_eq_true, memB_iff (l := r), List.mem_cons, beq_iff_eq]
    constructor <;> rintro (h | h) <;> first | exact .inl h.symm | exact .inr h
theorem nodupB_iff : ∀ {l : List Nat}, nodupB l = true → l.Nodup
  | [], _ => .nil
  | a :: r, h => by
    simp only [nodupB, Bool.and_eq_true, Bool.not_eq_true'] at h
    rw [List.nodup_cons]
    exact ⟨fun hm => by rw [memB_iff.2 hm] at h; simp at h, nodupB_iff h.2⟩
theorem idB_spec {k : Nat} : ∀ {l : List Nat} {i : Nat}, idB k i l = true → ∀ q, i + q < k → q < l.length → l[q]? = some (i + q)
  | [], _, _, q, _, h => by simp at h
  | a :: r, i, h, q, hq, hl => by
    simp only [idB, Bool.and_eq_true, Bool.or_eq_true] at h
    cases q with
    | zero =>
      have h1 : ¬ (decide (k ≤ i) = true) := by rw [decide_eq_true_eq]; omega
      have h2 := eq_of_beq (h.1.resolve_left h1)
      simp [← h2]
    | succ q =>
      have := idB_spec h.2 q (by omega) (by simpa using hl)
      rw [List.getElem?_cons_succ, this]; congr 1; omega
theorem complB_mem {ρ : List Nat} : ∀ {hp : Hp} {i j : Nat}, j ∈ complB ρ i hp → j ∉ ρ
  | [], _, _, h => by simp [complB] at h
  | _ :: r, i, j, h => by
    unfold complB at h
    cases hm : memB i ρ with
    | true => rw [hm] at h; exact complB_mem (hp := r) h
    | false =>
      rw [hm] at h
      rcases List.mem_cons.1 h with rfl | h
      · intro hc; rw [memB_iff.2 hc] at hm; cases hm
      · exact complB_mem (hp := r) h
theorem mkρ_length {m : Mp} {d : Nat} : ∀ {hp : Hp} {i : Nat}, (mkρ m d i hp).length = hp.length
  | [], _ => rfl
  | _ :: r, i => by simp [mkρ, mkρ_length (hp := r)]
theorem allLt_spec {n : Nat} : ∀ {l : List Nat}, allLt n l = true → ∀ j ∈ l, j < n
  | [], _, _, h => by simp at h
  | a :: r, h, j, hj => by
    simp only [allLt, Bool.and_eq_true] at h
    rcases List.mem_cons.1 hj with rfl | hj
    · exact of_decide_eq_true h.1
    · exact allLt_spec h.2 j hj

/-- The numbers that make the blocks hp' out of the blocks hp. -/
def WA2 (k : Nat) (s s' : S) (ρ : List Nat) : Prop := (nodupB ρ && idB k 0 ρ && decide (k ≤ ρ.length)) = true ∧ coeF s.hp (complB ρ 0 s.hp) ρ s.fr s'.fr ∧ coeH s.hp (complB ρ 0 s.hp) ρ 0 s'.hp
def WA (k : Nat) (s s' : S) : Prop := s'.gl = s.gl ∧ WA2 k s s' (mkρ (mH s.hp 0 s'.hp (mF (idMp k) s'.fr s.fr)) s.hp.length 0 s'.hp)
theorem weak_auto {k : Nat} {s s' : S} (h : WA k s s') : Weak k s s' := by
  obtain ⟨h0, h1, h2, h3⟩ := h
  simp only [Bool.and_eq_true, decide_eq_true_eq] at h1
  exact weak_of _ _ h0 mkρ_length (nodupB_iff h1.1.1) (fun i hi => complB_mem hi) (fun i hk hi => by simpa using idB_spec h1.1.2 i (by omega) (by omega)) h2 h3

/-! ### the end of a function -/
def OA2 (k : Nat) (hp : Hp) (r0 : AV) (hp' : Hp) (r : AV) (ρ : List Nat) : Prop := (nodupB ρ && idB k 0 ρ && decide (k ≤ ρ.length)) = true ∧ coeAV hp (complB ρ 0 hp) ρ r r0 ∧ coeH hp (complB ρ 0 hp) ρ 0 hp'
def OA (k : Nat) (hp : Hp) (r0 : AV) (hp' : Hp) (r : AV) : Prop := OA2 k hp r0 hp' r (mkρ (mH hp 0 hp' (mAV (idMp k) r r0)) hp.length 0 hp')
theorem out_auto {k : Nat} {hp : Hp} {r0 : AV} {hp' : Hp} {r : AV} (h : OA k hp r0 hp' r) : Out k hp r0 hp' r := by
  obtain ⟨h1, h2, h3⟩ := h
  simp only [Bool.and_eq_true, decide_eq_true_eq] at h1
  exact out_of _ _ mkρ_length (nodupB_iff h1.1.1) (fun i hi => complB_mem hi) (fun i hk hi => by simpa using idB_spec h1.1.2 i (by omega) (by omega)) h2 h3
/-- The end of a function that hands back blocks. -/
def FinG (P : Program) (k : Nat) (rs : List ResultVar) (r : AV) (hp' : Hp) (s : S) : Prop :=
  match retAV P s rs with
  | some r0 => match narrowR s.hp r0 with
    | some (p, hp1, r1) => p ∧ OA k hp1 r1 hp' r
    | none => OA k s.hp r0 hp' r
  | none => False
def finG (P : Program) (k : Nat) (rs : List ResultVar) (r : AV) (hp' : Hp) : Exit → S → Prop
  | .normal, s | .ret, s => FinG P k rs r hp' s
  | _, _ => False
/-- A function that hands back blocks: what it answers, and what they are then. -/
def DetCall (P : Program) (G : Nat → AV) (f k : Nat) (hp : Hp) (args : List AV) (r : AV) (hp' : Hp) : Prop := GCall P G f k hp args fun r1 hp1 => r1 = r ∧ hp1 = hp'

/-- A form that the evaluator has found. -/
structure Nf {α : Type} (a b : α) : Prop where
  h : a = b

/-! ### calls -/
/-- The new number of an elder one. -/
def invρ (ρ : List Nat) (j : Nat) : Nat := match go ρ 0 with | some i => i | none => 0
where go : List Nat → Nat → Option Nat
  | [], _ => none
  | a :: r, i => bif a == j then some i else go r (i + 1)
def nrmC (ρ : List Nat) : C → C
  | .ptr i off => .ptr (invρ ρ i) off
  | .eptr i r k off => .eptr (invρ ρ i) r k off
  | .ar i => .ar (invρ ρ i)
  | .sub i k off len => .sub (invρ ρ i) k off len
  | .nil => .v (.sl [])
  | .full rows => .v (.sl rows)
  | c => c
def nrmCs (ρ : List Nat) : List C → List C
  | [] => []
  | c :: r => nrmC ρ c :: nrmCs ρ r
mutual
def nrmAV (ρ : List Nat) : AV → AV
  | .one c => .one (nrmC ρ c)
  | .agg cs => .agg (nrmCs ρ cs)
  | .tup l => .tup (nrmAVs ρ l)
  | .fn f a b => .fn f (nrmCs ρ a) (nrmCs ρ b)
  | .any => .any
def nrmAVs (ρ : List Nat) : List AV → List AV
  | [] => []
  | v :: l => nrmAV ρ v :: nrmAVs ρ l
end
def nrmO (ρ : List Nat) : Option Blk → Option Blk
  | some (.box t cs) => some (.box t (nrmCs ρ cs))
  | b => b
def subO (ρ : List Nat) : Option (Option Blk) → Option Blk
  | some b => nrmO ρ b
  | none => none
def subH (hpc : Hp) (ρ : List Nat) : List Nat → Hp
  | [] => []
  | j :: r => subO ρ hpc[j]? :: subH hpc ρ r
/-- All that a value names is among these. -/
def inC (ρ : List Nat) : C → Bool
  | .ptr i _ | .eptr i _ _ _ | .ar i | .sub i _ _ _ => memB i ρ
  | _ => true
def inCs (ρ : List Nat) : List C → Bool
  | [] => true
  | c :: r => inC ρ c && inCs ρ r
mutual
def inAV (ρ : List Nat) : AV → Bool
  | .one c => inC ρ c
  | .agg cs => inCs ρ cs
  | .tup l => inAVs ρ l
  | .fn _ a b => inCs ρ a && inCs ρ b
  | .any => true
def inAVs (ρ : List Nat) : List AV → Bool
  | [] => true
  | v :: l => inAV ρ v && inAVs ρ l
end
def inO (ρ : List Nat) : Option (Option Blk) → Bool
  | some (some (.box _ cs)) => inCs ρ cs
  | _ => true
def inH (hpc : Hp) (ρ : List Nat) : List Nat → Bool
  | [] => true
  | j :: r => inO ρ hpc[j]? && inH hpc ρ r

section
variable {P : Program} {G : Nat → AV} {k n : Nat} {w w' : World} {ok ok' : Nat → Prop} {μ μ' : List MB} {hp hp' hpc : Hp} {ρ : List Nat}
theorem invρ_go {j : Nat} : ∀ {l : List Nat} {q : Nat}, j ∈ l → ∃ i, invρ.go j l q = some (q + i) ∧ l[i]? = some j
  | [], _, h => by simp at h
  | a :: r, q, h => by
    unfold invρ.go
    cases hb : a == j with
    | true => exact ⟨0, rfl, by rw [eq_of_beq hb]; rfl⟩
    | false =>
      have hne : a ≠ j := by intro e; subst e; simp at hb
      obtain ⟨i, h1, h2⟩ := invρ_go (l := r) (q := q + 1) (by rcases List.mem_cons.1 h with h | h; exact absurd h.symm hne; exact h)
      exact ⟨i + 1, by rw [cond_false, h1]; congr 1; omega, by simpa using h2⟩
theorem invρ_spec {j : Nat} (h : memB j ρ = true) : ρ[invρ ρ j]? = some j := by
  obtain ⟨i, h1, h2⟩ := invρ_go (q := 0) (memB_iff.1 h)
  unfold invρ
  rw [h1, Nat.zero_add]; exact h2
theorem nrmC_coe {hp : Hp} {F : List Nat} {c : C} (h : inC ρ c = true) : coeC hp F ρ (nrmC ρ c) c := by
  cases c with
  | v d => cases d <;> simp [nrmC, coeC]
  | ptr i off => exact ⟨invρ_spec h, rfl⟩
  | eptr i r k off => exact ⟨invρ_spec h, rfl, rfl, rfl⟩
  | ar i => exact invρ_spec h
  | sub i k off len => exact ⟨invρ_spec h, rfl, rfl, rfl⟩
  | vptr cs => simp [nrmC, coeC]
  | full rows => simp [nrmC, coeC]
  | nil => simp [nrmC, coeC]
  | any => simp [nrmC, coeC]
theorem nrmCs_coe {hp : Hp} {F : List Nat} : ∀ {l : List C}, inCs ρ l = true → coeCs hp F ρ (nrmCs ρ l) l
  | [], _ => trivial
  | c :: l, h => by
    simp only [inCs, Bool.and_eq_true] at h
    exact ⟨nrmC_coe h.1, nrmCs_coe h.2⟩
mutual
theorem nrmAV_coe {hp : Hp} {F : List Nat} : ∀ {v : AV}, inAV ρ v = true → coeAV hp F ρ (nrmAV ρ v) v
  | .one _, h => nrmC_coe h
  | .agg _, h => nrmCs_coe h
  | .tup _, h => nrmAVs_coe h
  | .fn _ _ _, h => by
    simp only [inAV, Bool.and_eq_true] at h
    exact ⟨rfl, nrmCs_coe h.1, nrmCs_coe h.2⟩
  | .any, _ => trivial
theorem nrmAVs_coe {hp : Hp} {F : List Nat} : ∀ {l : List AV}, inAVs ρ l = true → coeAVs hp F ρ (nrmAVs ρ l) l
  | [], _ => trivial
  | v :: l, h => by
    simp only [inAVs, Bool.and_eq_true] at h
    exact ⟨nrmAV_coe h.1, nrmAVs_coe h.2⟩
end
theorem subH_coe {F : List Nat} : ∀ {l : List Nat} {i : Nat}, (∀ q, l[q]? = ρ[i + q]?) → inH hpc ρ l = true → coeH hpc F ρ i (subH hpc ρ l)
  | [], _, _, _ => trivial
  | j :: r, i, hl, h => by
    simp only [inH, Bool.and_eq_true] at h
    have hr : coeH hpc F ρ (i + 1) (subH hpc ρ r) := subH_coe (fun q => by have := hl (q + 1); rw [List.getElem?_cons_succ] at this; rw [this]; congr 1; omega) h.2
    have hj : ρ[i]? = some j := by have := hl 0; simpa using this.symm
    unfold subH
    cases hb : hpc[j]? with
    | none => exact hr
    | some o =>
      cases o with
      | none => exact hr
      | some b =>
        rw [hb] at h
        cases b with
        | box t cs => exact ⟨⟨j, _, hj, hb, rfl, nrmCs_coe h.1⟩, hr⟩
        | arr e kk rows => exact ⟨⟨j, _, hj, hb, rfl, rfl, rfl⟩, hr⟩
        | arj e kk n rows => exact ⟨⟨j, _, hj, hb, rfl, rfl, rfl, rfl⟩, hr⟩
theorem subH_length : ∀ {l : List Nat}, (subH hpc ρ l).length = l.length
  | [] => rfl
  | _ :: r => by simp [subH, subH_length (l := r)]

/-- What is to be looked at ahead of a call. -/
def callChk (hpc : Hp) (ρ : List Nat) (k : Nat) (argsc : List AV) : Bool := decide (k ≤ ρ.length) && nodupB ρ && allLt hpc.length ρ && inH hpc ρ ρ && inAVs ρ argsc

theorem gcall_auto {f : Nat} {args argsc : List AV} {K : AV → Hp → Prop} (h : GCall P G f k hp args K) (hhp : subH hpc ρ ρ = hp) (ha : nrmAVs ρ argsc = args) (hchk : callChk hpc ρ k argsc = true) :
    ACall P G f hpc argsc fun r1 hp1 => ∃ r hp', K r hp' ∧ r1 = renAV (sig ρ k hpc.length) r ∧ hp1 = mergeH hpc ρ k hp' := by
  simp only [callChk, Bool.and_eq_true, decide_eq_true_eq] at hchk
  obtain ⟨⟨⟨⟨c1, c2⟩, c3⟩, c4⟩, c5⟩ := hchk
  subst hhp; subst ha
  exact gcall_sub h subH_length.symm (by rw [subH_length]; exact c1) (nodupB_iff c2) (allLt_spec c3) (subH_coe (fun q => by rw [Nat.zero_add]) c4) (nrmAVs_coe c5)

/-- The numbers at the caller, found by the evaluator. -/
def callρ (hpc hp : Hp) (args argsc : List AV) : List Nat := mkρ (mH hpc 0 hp (mAVs [] args argsc)) hpc.length 0 hp
theorem DetCall.kg {f : Nat} {args argsc : List AV} {r : AV} {K : AV → Hp → Prop} (h : DetCall P G f k hp args r hp') (hhp : subH hpc (callρ hpc hp args argsc) (callρ hpc hp args argsc) = hp) (ha : nrmAVs (callρ hpc hp args argsc) argsc = args) (hchk : callChk hpc (callρ hpc hp args argsc) k argsc = true)
    (hk : ∀ r1 hp1, Nf (renAV (sig (callρ hpc hp args argsc) k hpc.length) r) r1 → Nf (mergeH hpc (callρ hpc hp args argsc) k hp') hp1 → K r1 hp1) {x : Held K} : CallK P G f hpc argsc K x :=
  (gcall_auto h hhp ha hchk).mono fun r1 hp1 ⟨r2, hp2, ⟨e1, e2⟩, e3, e4⟩ => by subst e1; subst e2; exact hk _ _ ⟨e3.symm⟩ ⟨e4.symm⟩
theorem DetCall.dg {f : Nat} {args argsc : List AV} {r : AV} {K : AV → Hp → Prop} (h : DetCall P G f k hp args r hp') (hhp : subH hpc (callρ hpc hp args argsc) (callρ hpc hp args argsc) = hp) (ha : nrmAVs (callρ hpc hp args argsc) argsc = args) (hchk : callChk hpc (callρ hpc hp args argsc) k argsc = true)
    (hk : ∀ r1 hp1, Nf (renAV (sig (callρ hpc hp args argsc) k hpc.length) r) r1 → Nf (mergeH hpc (callρ hpc hp args argsc) k hp') hp1 → K r1 hp1) {x : Held K} : DCall P G f hpc argsc K x :=
  ⟨_, _, (gcall_auto h hhp ha hchk).mono fun r1 hp1 ⟨r2, hp2, ⟨e1, e2⟩, e3, e4⟩ => by subst e1; subst e2; exact ⟨e3, e4⟩, hk _ _ ⟨rfl⟩ ⟨rfl⟩⟩

/-- A function of plain data, whatever form its arguments have. -/
theorem PCall.kn {f : Nat} {hp : Hp} {args args' : List AV} {r : AV} {K : AV → Hp → Prop} (h : PCall P G f args' r) (hn : nrmAVs [] args = args') (hi : inAVs [] args = true) (hk : K r hp) {x : Held K} : CallK P G f hp args K x :=
  (h.at (hn ▸ nrmAVs_coe hi)).mono fun r' hp' ⟨h1, h2⟩ => by subst h1; subst h2; exact hk
theorem PCall.dn {f : Nat} {hp : Hp} {args args' : List AV} {r : AV} {K : AV → Hp → Prop} (h : PCall P G f args' r) (hn : nrmAVs [] args = args') (hi : inAVs [] args = true) (hk : K r hp) {x : Held K} : DCall P G f hp args K x :=
  ⟨r, hp, (h.at (hn ▸ nrmAVs_coe hi)).mono fun r' hp' ⟨h1, h2⟩ => ⟨h2, h1⟩, hk⟩
/-- .. told scalars by it: for the time of the call. -/
theorem PCall.bn {f : Nat} {args args' : List AV} {r : AV} {K : AV → Prop} (h : PCall P G f args' r) (hn : nrmAVs [] args = args') (hi : idAVs args = true) (hi' : inAVs [] args = true) (hf : flatAV r = true) (hk : K r) {x : Held K} : CallB P G f args K x :=
  ⟨r, hi, hf, hk, (h.at (hp := []) (hn ▸ nrmAVs_coe hi')).mono fun r' hp' ⟨h1, h2⟩ => ⟨h1, h2⟩⟩

theorem DetCall.out {f : Nat} {args : List AV} {r r2 : AV} {hp1 hp2 : Hp} (h : DetCall P G f k hp args r hp1) (ho : Out k hp1 r hp2 r2) : DetCall P G f k hp args r2 hp2 := by
  intro w ok μ xs hr hg ha
  refine (h w ok μ xs hr hg ha).mono ?_
  rintro e w' ⟨x, r', hp', ok', μ', rfl, hf, hrel, rfl, rfl⟩
  obtain ⟨ok2, μ2, hf2, hr2⟩ := ho w' ok' μ' x hf.hr hrel
  exact ⟨x, _, _, ok2, μ2, rfl, hf.trans hf2, hr2, rfl, rfl⟩
theorem DetCall.pcall {f : Nat} {args : List AV} {r : AV} (h : DetCall P G f 0 [] args r []) : PCall P G f args r := by
  intro w ok μ xs hr hg ha
  have h0 : μ.length = 0 := hr.len
  refine (h w ok μ xs hr hg ha).mono ?_
  rintro e w' ⟨x, r', hp', ok', μ', rfl, hf, hrel, rfl, rfl⟩
  rw [← h0] at hf
  exact ⟨x, _, _, ok', μ', rfl, hf.step, hrel, rfl, rfl⟩
/-- What was one's own goes out as plain data. -/
theorem DetCall.plain {f : Nat} {args : List AV} {r r2 : AV} {hp1 : Hp} (h : DetCall P G f 0 [] args r hp1) (ho : OA 0 hp1 r [] r2) : PCall P G f args r2 := (h.out (out_auto ho)).pcall

/-! arguments that stay as they are -/
theorem idC_coe {hp : Hp} {F ρ : List Nat} : ∀ {c : C}, idC c = true → coeC hp F ρ c c
  | .v d, _ => by cases d <;> simp [coeC]
  | .vptr _, _ => rfl
  | .full _, _ => rfl
  | .nil, _ => trivial
theorem idCs_coe {hp : Hp} {F ρ : List Nat} : ∀ {l : List C}, l.all idC = true → coeCs hp F ρ l l
  | [], _ => trivial
  | c :: l, h => by
    simp only [List.all_cons, Bool.and_eq_true] at h
    exact ⟨idC_coe h.1, idCs_coe h.2⟩
mutual
theorem idAV_coe {hp : Hp} {F ρ : List Nat} : ∀ {v : AV}, idAV v = true → coeAV hp F ρ v v
  | .one _, h => idC_coe h
  | .agg _, h => idCs_coe h
  | .fn _ _ _, h => by
    simp only [idAV, Bool.and_eq_true] at h
    exact ⟨rfl, idCs_coe h.1, idCs_coe h.2⟩
  | .tup _, h => idAVs_coe h
  | .any, _ => trivial
theorem idAVs_coe {hp : Hp} {F ρ : List Nat} : ∀ {l : List AV}, idAVs l = true → coeAVs hp F ρ l l
  | [], _ => trivial
  | v :: l, h => by
    simp only [idAVs, Bool.and_eq_true] at h
    exact ⟨idAV_coe h.1, idAVs_coe h.2⟩
end
/-! arrays of one's own that a call takes as plain data, for good -/
def nzC (hp : Hp) : C → C
  | .ar i => match hp[i]? with | some (some (.arr _ _ rows)) => .v (.sl rows) | _ => .ar i
  | .nil => .v (.sl [])
  | .full rows => .v (.sl rows)
  | c => c
def nzCs (hp : Hp) : List C → List C
  | [] => []
  | c :: r => nzC hp c :: nzCs hp r
def nzAV (hp : Hp) : AV → AV
  | .one c => .one (nzC hp c)
  | .agg cs => .agg (nzCs hp cs)
  | v => v
def nzAVs (hp : Hp) : List AV → List AV
  | [] => []
  | v :: l => nzAV hp v :: nzAVs hp l
def arsAVs : List AV → List Nat
  | [] => []
  | v :: l => arsAV v ++ arsAVs l
def dropF : List Nat → Hp → Hp
  | [], hp => hp
  | i :: l, hp => dropF l (hp.set i none)
theorem nzC_coe {F : List Nat} {c : C} (hF : ∀ i, c = .ar i → i ∈ F) (h : idC (nzC hp c) = true) : coeC hp F [] (nzC hp c) c := by
  cases c with
  | ar i =>
    simp only [nzC] at h ⊢
    split at h
    · rename_i e k rows hb
      simp only [hb, coeC]
      exact ⟨hF i rfl, e, k, rfl⟩
    · simp [idC] at h
  | nil => simp [nzC, coeC]
  | full rows => simp [nzC, coeC]
  | v d => cases d <;> simp [nzC, coeC]
  | vptr cs => simp [nzC, coeC]
  | any => simp [nzC, idC] at h
  | ptr => simp [nzC, idC] at h
  | eptr => simp [nzC, idC] at h
  | sub => simp [nzC, idC] at h
theorem nzCs_coe {F : List Nat} : ∀ {l : List C}, (∀ i ∈ arsCs l, i ∈ F) → (nzCs hp l).all idC = true → coeCs hp F [] (nzCs hp l) l
  | [], _, _ => trivial
  | c :: l, hF, h => by
    simp only [nzCs, List.all_cons, Bool.and_eq_true] at h
    refine ⟨nzC_coe (fun i e => hF i (by subst e; simp [arsCs])) h.1, nzCs_coe (fun i hi => hF i (by cases c <;> simp [arsCs, hi])) h.2⟩
theorem nzAV_coe {F : List Nat} {v : AV} (hF : ∀ i ∈ arsAV v, i ∈ F) (h : idAV (nzAV hp v) = true) : coeAV hp F [] (nzAV hp v) v := by
  cases v with
  | one c => exact nzC_coe (fun i e => hF i (by subst e; simp [arsAV])) h
  | agg cs => exact nzCs_coe hF h
  | tup l => exact idAV_coe (v := .tup l) h
  | fn f a b => exact idAV_coe (v := .fn f a b) h
  | any => trivial
theorem nzAVs_coe {F : List Nat} : ∀ {l : List AV}, (∀ i ∈ arsAVs l, i ∈ F) → idAVs (nzAVs hp l) = true → coeAVs hp F [] (nzAVs hp l) l
  | [], _, _ => trivial
  | v :: l, hF, h => by
    simp only [nzAVs, idAVs, Bool.and_eq_true] at h
    exact ⟨nzAV_coe (fun i hi => hF i (by simp [arsAVs, hi])) h.1, nzAVs_coe (fun i hi => hF i (by simp [arsAVs, hi])) h.2⟩
theorem dropF_step : ∀ (F : List Nat) {hp : Hp} {ok : Nat → Prop}, HR w ok μ hp → ∃ ok', Step w ok μ hp w ok' μ (dropF F hp) ∧ ∀ i ∈ F, ∀ blk m b, hp[i]? = some (some blk) → μ[i]? = some m → m.own = some b → ok' b
  | [], hp, ok, hr => ⟨ok, Step.refl hr, fun i h => by simp at h⟩
  | i :: l, hp, ok, hr => by
    by_cases hi : ∃ blk, hp[i]? = some (some blk)
    · obtain ⟨blk, hb⟩ := hi
      obtain ⟨m, hm, _⟩ := hr.rel i blk hb
      have s1 := step_freeze hr ⟨blk, hb⟩ hm
      obtain ⟨ok', s2, h2⟩ := dropF_step l s1.hr
      refine ⟨ok', s1.trans s2, fun j hj blk' m' b h3 h4 h5 => ?_⟩
      by_cases hij : j = i
      · subst hij; rw [hm] at h4; cases h4; exact s2.oksub b (.inr h5)
      · rcases List.mem_cons.1 hj with e | hj
        · exact absurd e hij
        · exact h2 j hj blk' m' b (by rw [List.getElem?_set_ne (fun e => hij e.symm)]; exact h3) h4 h5
    · have s1 := step_drop hr i
      obtain ⟨ok', s2, h2⟩ := dropF_step l s1.hr
      refine ⟨ok', s1.trans s2, fun j hj blk' m' b h3 h4 h5 => ?_⟩
      by_cases hij : j = i
      · subst hij; exact absurd ⟨blk', h3⟩ hi
      · rcases List.mem_cons.1 hj with e | hj
        · exact absurd e hij
        · exact h2 j hj blk' m' b (by rw [List.getElem?_set_ne (fun e => hij e.symm)]; exact h3) h4 h5
theorem PCall.frz {f : Nat} {args args' : List AV} {r : AV} (h : PCall P G f args' r) (hn : nzAVs hp args = args') (hi : idAVs args' = true) : ACall P G f hp args fun r' hp' => r' = r ∧ hp' = dropF (arsAVs args) hp := by
  subst hn
  intro w ok μ xs hr hg hargs
  obtain ⟨ok', s1, h1⟩ := dropF_step (arsAVs args) hr
  have hv : View w ok μ hp (arsAVs args) [] ok' [] := ⟨hr, fun i j m h => by simp at h, s1.oksub, fun i m b hi ⟨blk, hb⟩ h3 h4 => h1 i hi blk m b hb h3 h4⟩
  refine (h w ok' [] xs (hr_nil fun b hb => (s1.hr.keep hb).1) (fun g ν => (hg g ν).mono (fun _ _ => rfl) s1.oksub) (coeAVs_rel hv (nzAVs_coe (fun _ h => h) hi) hargs)).mono ?_
  rintro e w' ⟨x, r', hp', ok2, μ', rfl, hs, hrel, rfl, rfl⟩
  have hμ' : μ' = [] := List.eq_nil_of_length_eq_zero hs.hr.len
  subst hμ'
  exact ⟨x, _, _, ok2, μ, rfl, s1.trans (step_frame s1.hr hs), hrel.ext (fun i m h => by simp at h), rfl, rfl⟩
theorem PCall.dz {f : Nat} {args args' : List AV} {r : AV} {K : AV → Hp → Prop} (h : PCall P G f args' r) (hn : nzAVs hp args = args') (hi : idAVs args' = true) (hk : ∀ hp1, Nf (dropF (arsAVs args) hp) hp1 → K r hp1) {x : Held K} : DCall P G f hp args K x :=
  ⟨r, _, h.frz hn hi, hk _ ⟨rfl⟩⟩
theorem PCall.kz {f : Nat} {args args' : List AV} {r : AV} {K : AV → Hp → Prop} (h : PCall P G f args' r) (hn : nzAVs hp args = args') (hi : idAVs args' = true) (hk : ∀ hp1, Nf (dropF (arsAVs args) hp) hp1 → K r hp1) {x : Held K} : CallK P G f hp args K x :=
  (h.frz hn hi).mono fun r' hp' ⟨h1, h2⟩ => by subst h1; exact hk _ ⟨h2.symm⟩

theorem CallZ.l {o : AOp} {s : S} {f : Nat} {args : List AV} {K : S → Prop} {a : Held K} (h : CallK P s.gl f s.hp args (fun r hp' => K ({ s with hp := hp' }.put o.dst r)) ⟨⟩) : CallZ P o s f args K a := .inl h
theorem CallZ.b {o : AOp} {s : S} {f : Nat} {args : List AV} {K : S → Prop} {a : Held K} (h : BorK P o s (frz (arsOf s.eval (opsOf o.op)) s) K ⟨⟩) : CallZ P o s f args K a := .inr (.inl h)
theorem CallZ.z {o : AOp} {s : S} {f : Nat} {args : List AV} {K : S → Prop} {a : Held K} (h : FrzK P o (frz (arsOf s.eval (opsOf o.op)) s) K ⟨⟩) : CallZ P o s f args K a := .inr (.inr h)

/-- A nil slice in a box may be taken for an array of one's own, of no rows. -/
theorem hr_thaw (hr : HR w ok μ hp) {b o e m : Nat} {t : TypeId} {cs : List C} (h1 : hp[b]? = some (some (.box t cs))) (h2 : cs[o]? = some .nil) (hm : 0 < m) :
    Step w ok μ hp w ok (μ ++ [.arr (.slice none 0 0)]) (hp.set b (some (.box t (cs.set o (.ar hp.length)))) ++ [some (.arr e m [])]) := by
  obtain ⟨s1, s2⟩ := arr_sound (w' := w) (e := e) (k := m) (rows := []) (xs := []) (x := .slice none 0 0) hr rfl rfl rfl (Nat.le_refl _) (fun _ _ => rfl) (World.ownsRow_nil w 0 e m) .nil (fun _ h => by simp at h) (fun b hb => by cases hb)
  have hb : b < hp.length := lt_of_getElem? h1
  have h1' : (hp ++ [some (.arr e m [])])[b]? = some (some (.box t cs)) := by rw [List.getElem?_append_left hb]; exact h1
  obtain ⟨q, hq, hbr⟩ := s1.hr.rel b _ h1'
  have s3 := step_set (w' := w) (blk' := .box t (cs.set o (.ar hp.length))) s1.hr h1' hq rfl rfl rfl rfl (fun _ _ => rfl) (by
    cases q with
    | arr => exact hbr.elim
    | box g =>
      obtain ⟨xs, g1, g2⟩ := hbr
      refine ⟨xs, g1, ?_⟩
      obtain ⟨x, hx, hx'⟩ := g2.get h2
      cases hx' with | nil =>
      have h3 := g2.set (a := .ar hp.length) (b := .slice none 0 0) (by
        cases s2 with | one hc => exact hc) o
      have : xs.toList.set o (.slice none 0 0) = xs.toList := by
        apply List.ext_getElem?
        intro i
        rw [List.getElem?_set]
        split
        · rename_i e; subst e; rw [hx]; have hlx := lt_of_getElem? hx; simp only [Array.length_toList] at hlx; simp [hlx]
        · rfl
      rwa [this] at h3)
  have := s1.trans s3
  rwa [List.set_append_left _ _ hb] at this
theorem CallK.thaw {f : Nat} {argsc : List AV} {K : AV → Hp → Prop} {x : Held K} (b o e m : Nat) {t : TypeId} {cs : List C} (h1 : hp[b]? = some (some (.box t cs))) (h2 : cs[o]? = some .nil) (hm : 0 < m)
    (h : CallK P G f (hp.set b (some (.box t (cs.set o (.ar hp.length)))) ++ [some (.arr e m [])]) argsc K x) : CallK P G f hp argsc K x := by
  intro w ok μ xs hr hg hargs
  have s := hr_thaw (e := e) hr h1 h2 hm
  have hargs' : AVRels w ok (μ ++ [.arr (.slice none 0 0)]) argsc xs := hargs.ext s.ext
  refine (h w ok _ xs s.hr hg hargs').mono ?_
  rintro e' w' ⟨x, r, hp', ok', μ', he, hs, hr', hk⟩
  exact ⟨x, r, hp', ok', μ', he, s.trans hs, hr', hk⟩
end
end Go.Proofs.AE
