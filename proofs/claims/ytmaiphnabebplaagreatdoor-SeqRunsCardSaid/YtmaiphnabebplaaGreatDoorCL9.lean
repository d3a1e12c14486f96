/- Machines of deeds: the model. -/
import Derived.Test.YtmaiphnabebplaaGreatDoorG2
import Derived.Test.YtmaiphnabebplaaGreatDoorW
import Derived.Test.YtmaiphnabebplaaGreatDoorA14
set_option linter.unusedVariables false
set_option linter.unusedSimpArgs false
set_option maxRecDepth 100000
set_option maxHeartbeats 8000000
namespace Go.Proofs.YtmaiphnabebplaaGreatDoor
open Go Go.RowKit Go.Proofs.AE
def Deed.raw (d : Deed) : Raw := ⟨d.kind, d.key, d.field, d.n, d.text⟩
theorem Deed.Ok.raw {d : Deed} (h : d.Ok) : d.raw.Ok := ⟨h.kind, h.key, h.field, h.n⟩
def seqStep (n p : Int) (s : Int) (x : Cli) : Int := if x.id = n then (if x.seq + 1 - p < 1 then 1 else x.seq + 1 - p) else s
def callSeq (l : List Cli) (n p : Int) : Int := l.foldl (seqStep n p) 1
def openC : Cal := ⟨0, 0, ⟨0, ⟨#[]⟩, ⟨#[]⟩, ⟨#[]⟩, 0⟩⟩
def callD (l : List Cli) (d : Deed) : Cal := if pk d.client 7 = 0 then openC else ⟨pk d.client 7, callSeq l (pk d.client 7) ((pk d.off 3).tdiv 2), cmdR d.raw⟩
def newM : Mach := ⟨zeroS, 1, []⟩
def stepM (q : Int × Mach) (d : Deed) : Int × Mach :=
  (q.1 + pk d.wait 8, if (DoM q.2 (q.1 + pk d.wait 8) (callD q.2.clis d)).2.2 = 0 then (DoM q.2 (q.1 + pk d.wait 8) (callD q.2.clis d)).1 else q.2)
def foldM (l : List Deed) : Int × Mach := l.foldl stepM (0, newM)
def machV (l : List Deed) : Mach := (foldM (l.take 40)).2
/-! ### the bounds of a machine that is made by few deeds -/
structure Inv (k : Nat) (m : Mach) : Prop where
  ok : OkM m
  next : m.next ≤ 1 + (k : Int)
  seq : ∀ x ∈ m.clis, x.seq ≤ (k : Int)
theorem Inv.mono {k j : Nat} {m : Mach} (h : Inv k m) (hk : k ≤ j) : Inv j m := ⟨h.ok, by have := h.next; omega, fun x hx => by have := h.seq x hx; omega⟩
theorem half_range (n : Int) : 0 ≤ (pk n 3).tdiv 2 ∧ (pk n 3).tdiv 2 ≤ 1 := by
  have hp := pk_range (n := n) (m := 3) (by omega)
  have : pk n 3 = 0 ∨ pk n 3 = 1 ∨ pk n 3 = 2 := by omega
  rcases this with e | e | e <;> rw [e] <;> decide
theorem callSeq_range {n p : Int} (hp : 0 ≤ p) : ∀ (l : List Cli) (s : Int) (k : Int), (∀ x ∈ l, x.seq ≤ k) → 0 ≤ k → 1 ≤ s → s ≤ k + 1 → 1 ≤ l.foldl (seqStep n p) s ∧ l.foldl (seqStep n p) s ≤ k + 1
  | [], s, k, _, _, h1, h2 => ⟨h1, h2⟩
  | x :: l, s, k, hl, hk, h1, h2 => by
    have hx := hl x (List.mem_cons_self ..)
    refine callSeq_range hp l _ k (fun y hy => hl y (List.mem_cons_of_mem _ hy)) hk ?_ ?_ <;> unfold seqStep <;> repeat' split
    all_goals omega
theorem openC_ok : checkCl openC = 0 := by decide
theorem callD_ok {k : Nat} {m : Mach} (h : Inv k m) (hk : k ≤ 1000) {d : Deed} (hd : d.Ok) : checkCl (callD m.clis d) = 0 := by
  unfold callD
  split
  · exact openC_ok
  · rename_i hn
    have hr := pk_range (n := d.client) (m := 7) (by omega)
    obtain ⟨s1, s2⟩ := callSeq_range (n := pk d.client 7) (half_range d.off).1 m.clis 1 k h.seq (by omega) (by omega) (by omega)
    change 1 ≤ callSeq _ _ _ at s1
    change callSeq _ _ _ ≤ _ at s2
    unfold checkCl checkCall
    have c0 : ¬ (decide (pk d.client 7 = 0)) = true := by simpa using hn
    have c1 : okNumber (pk d.client 7) = true := by unfold okNumber; simp; omega
    have c2 : okNumber (callSeq m.clis (pk d.client 7) ((pk d.off 3).tdiv 2)) = true := by unfold okNumber; simp; omega
    simp only
    rw [if_neg c0, if_pos c1, if_pos c2]
    exact cmdR_ok hd.raw
theorem openM_inv {k : Nat} {m : Mach} (h : Inv k m) : Inv (k + 1) (openM m).1 := by
  refine ⟨(open_ok h.ok).1, ?_, ?_⟩
  · unfold openM
    have := h.next
    split
    · show m.next ≤ _; omega
    · show m.next + 1 ≤ _; omega
  · unfold openM
    split
    · exact fun x hx => by have := h.seq x hx; omega
    · intro x hx
      rcases List.mem_append.1 hx with hx | hx
      · have : x ∈ m.clis := by
          split at hx
          · exact (del_sub _ _).subset hx
          · exact hx
        have := h.seq x this
        omega
      · simp only [List.mem_singleton] at hx
        subst hx
        show (0 : Int) ≤ _
        omega
theorem callM_inv {k : Nat} {m : Mach} (h : Inv k m) {t : Int} (h0 : 0 ≤ t) (h1 : t ≤ 1073741824) {c : Cal} (hc : checkCl c = 0) : Inv (k + 1) (callM m t c).1 := by
  have hok := (call_ok h.ok h0 h1 hc).1
  have hs := h.mono (Nat.le_succ k)
  by_cases hz : c.client = 0
  · unfold callM; rw [if_pos hz]; exact openM_inv h
  · refine ⟨hok, ?_, ?_⟩
    · unfold callM
      rw [if_neg hz]
      repeat' split
      all_goals exact hs.next
    · unfold callM
      rw [if_neg hz]
      split
      · exact hs.seq
      · split
        · exact hs.seq
        · rename_i x hx
          split
          · exact hs.seq
          · split
            · exact hs.seq
            · rename_i e2
              have hxs := h.seq x (List.mem_of_getElem? hx)
              intro y hy
              rcases List.mem_or_eq_of_mem_set hy with hy | hy
              · exact hs.seq y hy
              · subst hy
                show c.seq ≤ _
                omega
theorem callM_now {m : Mach} (h : OkM m) {t : Int} (ht : m.sto.now = t) (h1 : t ≤ 1073741824) {c : Cal} (hc : checkCl c = 0) : (callM m t c).1.sto.now = t := by
  have h0 : 0 ≤ t := by rw [← ht]; exact h.sto.now.1
  unfold callM
  by_cases hz : c.client = 0
  · rw [if_pos hz]
    unfold openM
    split <;> exact ht
  · rw [if_neg hz]
    split
    · exact ht
    · split
      · exact ht
      · split
        · exact ht
        · split
          · exact ht
          · show (ApplyS m.sto t c.cmd).1.now = t
            rw [(apply_ok h.sto h0 h1 (call_cmd hc hz).2.2).1]
            show maxI m.sto.now t = t
            rw [ht, maxI_self]
theorem maxI_le2 {a b : Int} (h : a ≤ b) : maxI a b = b := by unfold maxI; split <;> omega
theorem stepM_inv {k : Nat} {q : Int × Mach} {d : Deed} (h : Inv k q.2) (hk : k ≤ 100) (hd : d.Ok) (n0 : 0 ≤ q.1) (n1 : q.1 ≤ 7 * (k : Int)) (n2 : q.2.sto.now ≤ q.1) :
    ∃ m' r, DoM q.2 (q.1 + pk d.wait 8) (callD q.2.clis d) = (m', r, 0) ∧ stepM q d = (q.1 + pk d.wait 8, m') ∧ Inv (k + 1) m' ∧ m'.sto.now = q.1 + pk d.wait 8 := by
  have hp := pk_range (n := d.wait) (m := 8) (by omega)
  have hc := callD_ok h (by omega) hd
  obtain ⟨e, hmid, _, _⟩ := do_ok h.ok (t := q.1 + pk d.wait 8) (by omega) (by omega) hc
  rw [maxI_le2 (by omega)] at e hmid
  have hi : Inv k ⟨⟨q.1 + pk d.wait 8, aliveS (q.1 + pk d.wait 8) q.2.sto⟩, q.2.next, q.2.clis⟩ := ⟨hmid, h.next, h.seq⟩
  refine ⟨_, _, e, ?_, callM_inv hi (by omega) (by omega) hc, callM_now hmid rfl (by show q.1 + pk d.wait 8 ≤ _; omega) hc⟩
  unfold stepM
  rw [e]
  simp
theorem newM_inv : Inv 0 newM := ⟨⟨⟨⟨by decide, by decide⟩, Nat.zero_le _, (fun e h => by cases h), List.Pairwise.nil⟩, by decide, Nat.zero_le _, (fun x h => by cases h), List.Pairwise.nil⟩, by decide, fun x h => by cases h⟩
theorem foldM_inv : ∀ (l : List Deed) (q : Int × Mach) (k : Nat), (∀ d ∈ l, d.Ok) → k + l.length ≤ 100 → Inv k q.2 → 0 ≤ q.1 → q.1 ≤ 7 * (k : Int) → q.2.sto.now ≤ q.1 →
    Inv (k + l.length) (l.foldl stepM q).2 ∧ 0 ≤ (l.foldl stepM q).1 ∧ (l.foldl stepM q).1 ≤ 7 * ((k + l.length : Nat) : Int) ∧ (l.foldl stepM q).2.sto.now ≤ (l.foldl stepM q).1
  | [], q, k, _, _, h, n0, n1, n2 => ⟨h, n0, n1, n2⟩
  | d :: l, q, k, hl, hk, h, n0, n1, n2 => by
    simp only [List.length_cons] at hk
    have hp := pk_range (n := d.wait) (m := 8) (by omega)
    obtain ⟨m', r, _, e, hi, hn⟩ := stepM_inv h (by omega) (hl d (List.mem_cons_self ..)) n0 n1 n2
    rw [List.foldl_cons, e]
    have := foldM_inv l (q.1 + pk d.wait 8, m') (k + 1) (fun y hy => hl y (List.mem_cons_of_mem _ hy)) (by omega) hi (by show 0 ≤ q.1 + pk d.wait 8; omega) (by show q.1 + pk d.wait 8 ≤ _; omega) (by show m'.sto.now ≤ q.1 + pk d.wait 8; omega)
    rw [show k + (d :: l).length = k + 1 + l.length by simp only [List.length_cons]; omega]
    exact this
theorem foldM_succ {l : List Deed} {i : Nat} {d : Deed} (h : l[i]? = some d) : foldM (l.take (i + 1)) = stepM (foldM (l.take i)) d := by
  unfold foldM
  rw [List.take_add_one, h, Option.toList_some, List.foldl_append]
  rfl
theorem machV_inv (l : List Deed) (hl : ∀ d ∈ l, d.Ok) : Inv 40 (machV l) ∧ (machV l).sto.now ≤ 280 := by
  have hlen : (l.take 40).length ≤ 40 := by rw [List.length_take]; omega
  obtain ⟨h1, h2, h3, h4⟩ := foldM_inv (l.take 40) (0, newM) 0 (fun d hd => hl d (List.mem_of_mem_take hd)) (by omega) newM_inv (Int.le_refl _) (by show (0 : Int) ≤ _; omega) (Int.le_refl _)
  refine ⟨h1.mono (by omega), ?_⟩
  unfold machV foldM
  omega
/-! ### at a machine's own time -/
theorem do_now {m : Mach} (h : OkM m) {c : Cal} (hc : checkCl c = 0) : DoM m m.sto.now c = ((callM m m.sto.now c).1, (callM m m.sto.now c).2, 0) := by
  obtain ⟨e, _⟩ := do_ok h h.sto.now.1 h.sto.now.2 hc
  rw [maxI_self, alive_same h.sto] at e
  exact e
def openedV (l : List Deed) : Mach := (openM (machV l)).1
theorem do_open {m : Mach} (h : OkM m) : DoM m m.sto.now openC = ((openM m).1, (openM m).2, 0) := by
  rw [do_now h openC_ok]
  rfl
theorem openedV_inv (l : List Deed) (hl : ∀ d ∈ l, d.Ok) : Inv 41 (openedV l) ∧ (openedV l).sto.now = (machV l).sto.now ∧ (openedV l).next = (machV l).next + 1 := by
  obtain ⟨h1, h2⟩ := machV_inv l hl
  refine ⟨openM_inv h1, ?_, ?_⟩
  · unfold openedV openM; split <;> rfl
  · have := h1.next
    unfold openedV openM
    rw [if_neg (by omega)]
instance : DecidableEq Cli := fun a b => decidable_of_iff (a.id = b.id ∧ a.seq = b.seq ∧ a.time = b.time ∧ a.reply.code = b.reply.code ∧ a.reply.text = b.reply.text ∧ a.reply.n = b.reply.n ∧ a.reply.list = b.reply.list) (by
  obtain ⟨a1, a2, a3, ⟨a4, a5, a6, a7⟩⟩ := a; obtain ⟨b1, b2, b3, ⟨b4, b5, b6, b7⟩⟩ := b; simp)
theorem do_bad {m : Mach} (h : OkM m) {t : Int} (ht : t < 0 ∨ 1073741824 < t) (c : Cal) : DoM m t c = (zeroM, toldR 0, 2) := by
  unfold DoM
  rw [if_neg (by rw [checkM_iff.2 h]; simp), if_pos ht]
theorem rise_uniq {l : List Cli} (h : RiseC l) {i j : Nat} {x y : Cli} (hi : l[i]? = some x) (hj : l[j]? = some y) (e : x.id = y.id) : i = j := by
  obtain ⟨li, ei⟩ := List.getElem?_eq_some_iff.1 hi
  obtain ⟨lj, ej⟩ := List.getElem?_eq_some_iff.1 hj
  have hp := List.pairwise_iff_getElem.1 h
  rcases Nat.lt_trichotomy i j with hlt | he | hlt
  · have := hp i j li lj hlt; rw [ei, ej] at this; omega
  · exact he
  · have := hp j i lj li hlt; rw [ei, ej] at this; omega
theorem findC_of {l : List Cli} (h : RiseC l) {j : Nat} {x : Cli} (hj : l[j]? = some x) : findC l x.id = (j : Int) := by
  unfold findC
  rcases firstI_cases (fun y : Cli => y.id == x.id) l 0 with ⟨_, h2⟩ | ⟨i, y, h1, h2, h3, _⟩
  · have := h2 x (List.mem_of_getElem? hj); simp at this
  · rw [h1, rise_uniq h h2 hj (by simpa using h3)]; simp
theorem findC_none {l : List Cli} {id : Int} (h : ∀ x ∈ l, x.id ≠ id) : findC l id = -1 := by
  unfold findC
  rcases firstI_cases (fun y : Cli => y.id == id) l 0 with ⟨h1, _⟩ | ⟨i, y, h1, h2, h3, _⟩
  · exact h1
  · exact absurd (by simpa using h3) (h y (List.mem_of_getElem? h2))
theorem callM_known {m : Mach} (h : RiseC m.clis) {j : Nat} {x : Cli} (hj : m.clis[j]? = some x) {t : Int} {c : Cal} (hc : c.client = x.id) (hz : c.client ≠ 0) :
    callM m t c = if c.seq = x.seq then (m, x.reply) else if c.seq ≠ x.seq + 1 then (m, failR 10) else (⟨(ApplyS m.sto t c.cmd).1, m.next, m.clis.set j ⟨x.id, c.seq, (ApplyS m.sto t c.cmd).1.now, (ApplyS m.sto t c.cmd).2.1⟩⟩, (ApplyS m.sto t c.cmd).2.1) := by
  unfold callM
  rw [if_neg hz, hc, findC_of h hj, if_neg (by omega), show ((j : Int)).toNat = j by omega, hj]
theorem callM_gone {m : Mach} {t : Int} {c : Cal} (hz : c.client ≠ 0) (h : ∀ x ∈ m.clis, x.id ≠ c.client) : callM m t c = (m, failR 11) := by
  unfold callM
  rw [if_neg hz, findC_none h, if_pos (by omega)]
/-- Who is called known: one that is the last. -/
theorem openM_last {m : Mach} (h : OkM m) (hn : m.next ≤ 1048576) : ∃ L, L.Sublist m.clis ∧ L.length ≤ 3 ∧ openM m = (⟨m.sto, m.next + 1, L ++ [⟨m.next, 0, m.sto.now, toldR 0⟩]⟩, toldR m.next) ∧ (m.clis.length ≠ 4 → L = m.clis) ∧ (m.clis.length = 4 → L = delAt m.clis (oldest m.clis 0 0 m.clis) ∧ L.length = 3) := by
  have hl := h.len
  unfold openM
  rw [if_neg (by omega)]
  by_cases h4 : m.clis.length = 4
  · rw [if_pos h4]
    have hlt := oldest_lt m.clis m.clis 0 0 (by omega) (by omega)
    exact ⟨_, del_sub _ _, by have := delE_len hlt; omega, rfl, fun h => absurd h4 h, fun _ => ⟨rfl, by have := delE_len hlt; omega⟩⟩
  · rw [if_neg h4]
    exact ⟨_, List.Sublist.refl _, by omega, rfl, fun _ => rfl, fun h => absurd h h4⟩
/-- Another call that is done. -/
theorem call_made {c : Cal} {id seq : Int} {cmd : Cmd} (hc : c = ⟨id, seq, cmd⟩) (h1 : 1 ≤ id) (h2 : id ≤ 1048576) (h3 : 1 ≤ seq) (h4 : seq ≤ 1048576) (h5 : checkC cmd = 0) : checkCl c = 0 ∧ c.client ≠ 0 := by
  subst hc
  unfold checkCl checkCall
  have c0 : ¬ (decide (id = 0)) = true := by simp; omega
  have c1 : okNumber id = true := by unfold okNumber; simp; omega
  have c2 : okNumber seq = true := by unfold okNumber; simp; omega
  simp only
  rw [if_neg c0, if_pos c1, if_pos c2]
  exact ⟨h5, by omega⟩
/-- What is done at a machine's own time does not touch it ahead. -/
theorem self_eq (m : Mach) : (⟨m.sto, m.next, m.clis⟩ : Mach) = m := rfl
end Go.Proofs.YtmaiphnabebplaaGreatDoor
