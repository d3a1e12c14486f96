/- Texts joined. -/
import Derived.Test.YtkkleopmambcnaaGreatDoorSk5
import Derived.Test.YtkkleopmambcnaaGreatDoorSk4
import Derived.Test.YtkkleopmambcnaaGreatDoorSk3
import Derived.Test.YtkkleopmambcnaaGreatDoorRows
import Derived.ProofKit
import Derived.LaidMore
import Derived.OpenShut
import Derived.Test.YtkkleopmambcnaaGreatDoorProg
import Derived.JoinedOf
set_option linter.unusedVariables false
set_option linter.unusedSimpArgs false
set_option maxRecDepth 100000
set_option maxHeartbeats 8000000
namespace Go.Proofs.YtkkleopmambcnaaGreatDoor
open Go Go.RowKit Go.Proofs.AE
structure Mono (x x' : RNd) : Prop where
  term : x.cur.term ≤ x'.cur.term
  commit : x.commit ≤ x'.commit
  base : x.cur.base ≤ x'.cur.base
theorem Mono.refl (x : RNd) : Mono x x := ⟨Int.le_refl _, Nat.le_refl _, Nat.le_refl _⟩
theorem Mono.trans {a b c : RNd} (h : Mono a b) (k : Mono b c) : Mono a c := ⟨Int.le_trans h.term k.term, Nat.le_trans h.commit k.commit, Nat.le_trans h.base k.base⟩
section
variable {g : RGh} {nd : Nat → RNd} {K : Nat} {n : Nd} {x : RNd}
def LedS (K : Nat) (g g' : RGh) (T : Int) (b : Bool) : Prop := if b then g.led T = none ∧ ∀ t, g'.led t = if t = T then some K else g.led t else g'.led = g.led
def NxtS (g : RGh) (nd : Nat → RNd) (K : Nat) (x : RNd) (n' : Nd) (b : Bool) : Prop := ∃ g' nd' x', Ev K g g' nd nd' ∧ LedS K g g' n'.term b ∧ St g' nd' K n' x' ∧ Mono x x'
theorem St.nxt (h : St g nd K n x) {x0 : RNd} (hm : Mono x0 x) : NxtS g nd K x0 n false := ⟨g, nd, x, Ev.refl K g nd, rfl, h, hm⟩
theorem St.come1 (h : St g nd K n x) {m : Msg} (hm : MOk g m) (hto : m.to = K) (hs : g.sent m.fr.toNat K (absM m)) (hT : m.kind = 1 ∨ m.kind = 2 ∨ m.term ≤ n.term) : NxtS g nd K x (n.come1 m).1 (n.come1 m).2.2 := by
  have hf := hm.fr; have hne := hm.ne
  unfold Nd.come1
  split
  · obtain ⟨o, ho⟩ := h.pre hm hto
    exact ho.nxt ⟨Int.le_refl _, Nat.le_refl _, Nat.le_refl _⟩
  · rename_i h1
    split
    · split
      · rename_i h2 hc
        have hr : x.role ≠ 2 := by have := h.nr.role; omega
        have hv := h.setV hf (fun e => absurd e hr)
        split
        · obtain ⟨g', nd', x', a, b, c, d, e, f⟩ := hv.stand
          exact ⟨g', nd', x', a, b, c, d, by rw [e]; exact Nat.le_refl _, by rw [f]; exact Nat.le_refl _⟩
        · exact hv.nxt ⟨Int.le_refl _, Nat.le_refl _, Nat.le_refl _⟩
      · exact h.nxt (Mono.refl x)
    · rename_i h2
      have hle : m.term ≤ n.term := by omega
      split
      · simp only
        split
        · obtain ⟨o, ho⟩ := h.refuse hf (by omega)
          exact ho.nxt ⟨Int.le_refl _, Nat.le_refl _, Nat.le_refl _⟩
        · exact h.nxt (Mono.refl x)
      · rename_i hlt
        have hTe : m.term = n.term := by omega
        have et : n.term = x.cur.term := h.nr.dr.term
        split
        · rename_i h3
          obtain ⟨x', a, b, c, d⟩ := h.ballot hm hto h3 hTe hs
          exact a.nxt ⟨by rw [b]; exact Int.le_refl _, by rw [c]; exact Nat.le_refl _, by rw [d]; exact Nat.le_refl _⟩
        · split
          · rename_i h3 h4
            split
            · rename_i hr
              have hr2 : x.role = 2 := by have := h.nr.role; omega
              have hab : absM m = .voted x.cur.term := by unfold absM; rw [if_neg h3, if_pos h4, hTe, et]
              have hv := h.setV hf (fun _ => by rw [hab] at hs; exact hs)
              split
              · rename_i hmy
                obtain ⟨q, g', nd', x', a, b, c, d, e, f⟩ := hv.leadP hr2 hmy
                have ht2 : (n.setV m.fr).leadP.term = (n.setV m.fr).term := by
                  have e1 : (n.setV m.fr).leadP.term = x'.cur.term := c.nr.dr.term
                  have e2 : (n.setV m.fr).term = x.cur.term := hv.nr.dr.term
                  rw [e1, e2, d]
                refine ⟨g', nd', x', a, ?_, c, ?_⟩
                · unfold LedS
                  rw [if_pos rfl, ht2]
                  exact ⟨q, b⟩
                · exact ⟨by rw [d]; exact Int.le_refl _, by rw [e]; exact Nat.le_refl _, by rw [f]; exact Nat.le_refl _⟩
              · exact hv.nxt ⟨Int.le_refl _, Nat.le_refl _, Nat.le_refl _⟩
            · exact h.nxt (Mono.refl x)
          · split
            · rename_i h5
              obtain ⟨r, hr, h0⟩ := h.hear
              have e0 : n.hear.term = n.term := by unfold Nd.hear; split <;> rfl
              obtain ⟨x', a, b, c, d⟩ := h0.pile hm hto h5 (by rw [e0]; exact hTe) hs hr
              exact a.nxt ⟨by rw [b]; exact Int.le_refl _, c, by rw [d]; exact Nat.le_refl _⟩
            · split
              · rename_i h7
                obtain ⟨r, hr, h0⟩ := h.hear
                have e0 : n.hear.term = n.term := by unfold Nd.hear; split <;> rfl
                obtain ⟨x', a, b, c, d⟩ := h0.ship hm hto h7 (by rw [e0]; exact hTe) hs hr
                exact a.nxt ⟨by rw [b]; exact Int.le_refl _, c, d⟩
              · split
                · rename_i h6
                  split
                  · rename_i hr
                    obtain ⟨x', a, b, c⟩ := h.ack hm hto h6 hTe hs hr
                    exact a.nxt ⟨by rw [b]; exact Int.le_refl _, c, by rw [b]; exact Nat.le_refl _⟩
                  · exact h.nxt (Mono.refl x)
                · exact h.nxt (Mono.refl x)
theorem St.come (h : St g nd K n x) {m : Msg} (hm : MOk g m) (hto : m.to = K) (hs : g.sent m.fr.toNat K (absM m)) : NxtS g nd K x (n.come m).1 (n.come m).2.2 := by
  unfold Nd.come
  split
  · exact h.nxt (Mono.refl x)
  · split
    · rename_i hu hc
      split
      · exact h.nxt (Mono.refl x)
      · rename_i hw
        simp only [Bool.not_eq_false] at hw
        have h1 := h.later hc.2.2 hw
        have et : n.term = x.cur.term := h.nr.dr.term
        obtain ⟨_, _, h3⟩ := mark_room hw
        obtain ⟨g', nd', x', a, b, c, d⟩ := h1.come1 hm hto hs (.inr (.inr (by rw [h3]; exact Int.le_refl _)))
        exact ⟨g', nd', x', a, b, c, Mono.trans (b := ⟨x.old ++ [x.cur], { x.cur with term := m.term, vote := -1 }, 0, x.votes, x.mt, x.commit, x.out⟩) ⟨by show x.cur.term ≤ m.term; omega, Nat.le_refl _, Nat.le_refl _⟩ d⟩
    · rename_i hu hc
      refine h.come1 hm hto hs ?_
      by_cases h1 : m.kind = 1
      · exact .inl h1
      · by_cases h2 : m.kind = 2
        · exact .inr (.inl h2)
        · refine .inr (.inr ?_)
          have : ¬ n.term < m.term := fun hlt => hc ⟨h1, h2, hlt⟩
          omega
theorem St.ask (h : St g nd K n x) (q : Cal) : ∃ g' nd' x', Ev K g g' nd nd' ∧ g'.led = g.led ∧ St g' nd' K (n.ask q).1 x' ∧ Mono x x' := by
  unfold Nd.ask
  split
  · exact ⟨g, nd, x, Ev.refl K g nd, rfl, h, Mono.refl x⟩
  · split
    · exact ⟨g, nd, x, Ev.refl K g nd, rfl, h, Mono.refl x⟩
    · rename_i hr
      have hr3 : x.role = 3 := by have := h.nr.role; omega
      obtain ⟨g', nd', x', a, b, c, _, d, e, f⟩ := h.put hr3 (y := callItem n.term n.time q) rfl
      have hmo : Mono x x' := ⟨by rw [d]; exact Int.le_refl _, by rw [e]; exact Nat.le_refl _, by rw [f]; exact Nat.le_refl _⟩
      split
      · exact ⟨g', nd', x', a, b, c, hmo⟩
      · exact ⟨g', nd', x', a, b, ⟨c.inv, c.ok, c.gi, c.k3, { c.nr with tape := c.nr.tape.keep rfl rfl rfl rfl }⟩, hmo⟩
end
theorem Crw.nd_set {c : Crw} {K J : Nat} {n : Nd} (hK : K < 3) (hJ : J < 3) : (c.set K n).nd J = if J = K then n else c.nd J := by
  have h1 : K = 0 ∨ K = 1 ∨ K = 2 := by omega
  have h2 : J = 0 ∨ J = 1 ∨ J = 2 := by omega
  rcases h1 with rfl | rfl | rfl <;> rcases h2 with rfl | rfl | rfl <;> rfl
structure W (c : Crw) (g : RGh) (nd : Nat → RNd) (N L : Nat) : Prop where
  inv : Raft.Inv tmI g nd
  gi : GI g
  nr : ∀ K, K < 3 → NR g K (c.nd K) (nd K)
  away : ∀ m ∈ c.away, MOk g m ∧ g.sent m.fr.toNat m.to.toNat (absM m)
  awl : c.away.length ≤ 300
  led1 : ∀ p ∈ c.led, ∃ k : Nat, k < 3 ∧ p.2 = k ∧ g.led p.1 = some k
  led2 : ∀ t k, g.led t = some k → (t, (k : Int)) ∈ c.led
  led3 : (c.led.map Prod.fst).Nodup
  ledl : c.led.length ≤ L
  wts : ∀ K, K < 3 → (c.nd K).waits.length ≤ N
  told : c.told.length + pend c.n0 + pend c.n1 + pend c.n2 ≤ N
  clk : ∀ K, K < 3 → CkOk (c.nd K)
  trep : ∀ t ∈ c.told, t.rep.list.length ≤ 1000
theorem W.st {c : Crw} {g : RGh} {nd : Nat → RNd} {N L : Nat} (h : W c g nd N L) {K : Nat} (hK : K < 3) : St g nd K (c.nd K) (nd K) := ⟨h.inv, h.inv.nd K hK, h.gi, hK, h.nr K hK⟩
def Nxt (P : RNd → RNd → Prop) (c' : Crw) (g : RGh) (nd : Nat → RNd) (N L : Nat) : Prop := ∃ g' nd', Raft.GhLe tmI g g' ∧ W c' g' nd' N L ∧ ∀ K, K < 3 → P (nd K) (nd' K)
theorem told_set {c : Crw} {K : Nat} (hK : K < 3) {n' : Nd} {T : List Tol} {d N : Nat} (h : c.told.length + pend c.n0 + pend c.n1 + pend c.n2 ≤ N) (hc : Cnt (c.nd K) n' T d) : (c.told ++ T).length + pend (c.set K n').n0 + pend (c.set K n').n1 + pend (c.set K n').n2 ≤ N + d := by
  have h1 : K = 0 ∨ K = 1 ∨ K = 2 := by omega
  have hp := hc.p
  rw [List.length_append]
  rcases h1 with rfl | rfl | rfl
  · simp only [Crw.set, Crw.nd] at hp ⊢; omega
  · simp only [Crw.set, Crw.nd] at hp ⊢; omega
  · simp only [Crw.set, Crw.nd] at hp ⊢; omega
theorem W.node {P : RNd → RNd → Prop} (hP : ∀ x, P x x) {c : Crw} {g : RGh} {nd : Nat → RNd} {N L : Nat} (h : W c g nd N L) {K : Nat} (hK : K < 3) {g' : RGh} {nd' : Nat → RNd} {n' : Nd} {x' : RNd} {T : List Tol} {d : Nat} {b : Bool} {t : Int} (he : Ev K g g' nd nd') (hs : St g' nd' K n' x') (hm : P (nd K) x') (hc : Cnt (c.nd K) n' T d) (hl : LedS K g g' t b) :
    ∃ nd2, W { c.set K n' with told := c.told ++ T, led := if b then c.led ++ [(t, (K : Int))] else c.led } g' nd2 (N + d) (L + if b then 1 else 0) ∧ ∀ J, J < 3 → P (nd J) (nd2 J) := by
  have hset : ∀ J, J < 3 → ({ c.set K n' with told := c.told ++ T, led := if b then c.led ++ [(t, (K : Int))] else c.led } : Crw).nd J = if J = K then n' else c.nd J := fun J hJ => by
    have := Crw.nd_set (c := c) (n := n') hK hJ
    rw [← this]
    have h2 : J = 0 ∨ J = 1 ∨ J = 2 := by omega
    rcases h2 with rfl | rfl | rfl <;> rfl
  have haw : ({ c.set K n' with told := c.told ++ T, led := if b then c.led ++ [(t, (K : Int))] else c.led } : Crw).away = c.away := by
    have h1 : K = 0 ∨ K = 1 ∨ K = 2 := by omega
    rcases h1 with rfl | rfl | rfl <;> rfl
  refine ⟨Raft.upd nd' K x', ⟨hs.upd, hs.gi, fun J hJ => ?_, fun m hm => ?_, ?_, fun p hp => ?_, fun u k hu => ?_, ?_, ?_, fun J hJ => ?_, ?_, fun J hJ => ?_, fun q hq => (List.mem_append.1 hq).elim (h.trep q) (hc.r q)⟩, fun J hJ => ?_⟩
  · rw [hset J hJ]
    by_cases e : J = K
    · subst e; rw [if_pos rfl, Raft.upd_same]; exact hs.nr
    · rw [if_neg e, Raft.upd_ne _ _ _ e, he.oth J e]; exact (h.nr J hJ).le he.le
  · rw [haw] at hm
    obtain ⟨p, q⟩ := h.away m hm
    exact ⟨p.le he.le, he.le.sent _ _ _ q⟩
  · rw [haw]; exact h.awl
  · simp only at hp
    cases b with
    | false =>
      obtain ⟨k, h1, h2, h3⟩ := h.led1 p hp
      exact ⟨k, h1, h2, he.le.led _ _ h3⟩
    | true =>
      rcases List.mem_append.1 hp with hp | hp
      · obtain ⟨k, h1, h2, h3⟩ := h.led1 p hp
        exact ⟨k, h1, h2, he.le.led _ _ h3⟩
      · rw [List.mem_singleton] at hp; subst hp
        exact ⟨K, hK, rfl, by rw [hl.2 t, if_pos rfl]⟩
  · simp only
    cases b with
    | false =>
      have : g'.led = g.led := hl
      rw [this] at hu
      exact h.led2 u k hu
    | true =>
      rw [hl.2 u] at hu
      split at hu
      · rename_i e
        cases hu; subst e
        exact List.mem_append_right _ (List.mem_singleton.2 rfl)
      · exact List.mem_append_left _ (h.led2 u k hu)
  · simp only
    cases b with
    | false => exact h.led3
    | true =>
      rw [if_pos rfl, List.map_append, List.nodup_append]
      refine ⟨h.led3, by simp, fun a ha z hz => ?_⟩
      rw [List.map_singleton, List.mem_singleton] at hz
      subst hz
      rintro rfl
      obtain ⟨p, hp, e⟩ := List.mem_map.1 ha
      obtain ⟨k, _, _, h3⟩ := h.led1 p hp
      rw [e, hl.1] at h3; cases h3
  · simp only
    have := h.ledl
    cases b with
    | false => simpa using this
    | true => simp; omega
  · rw [hset J hJ]
    have hw := h.wts J hJ
    by_cases e : J = K
    · subst e; rw [if_pos rfl]; have := hc.w; omega
    · rw [if_neg e]; omega
  · exact told_set hK h.told hc
  · rw [hset J hJ]
    by_cases e : J = K
    · subst e; rw [if_pos rfl]; exact hc.ck (h.clk J hJ)
    · rw [if_neg e]; exact h.clk J hJ
  · by_cases e : J = K
    · subst e; rw [Raft.upd_same]; exact hm
    · rw [Raft.upd_ne _ _ _ e, he.oth J e]; exact hP _
theorem W.up {c : Crw} {g : RGh} {nd : Nat → RNd} {N L N' L' : Nat} (h : W c g nd N L) (h1 : N ≤ N') (h2 : L ≤ L') : W c g nd N' L' :=
  { h with ledl := by have := h.ledl; omega, wts := fun K hK => by have := h.wts K hK; omega, told := by have := h.told; omega }
theorem W.come {c : Crw} {g : RGh} {nd : Nat → RNd} {N L : Nat} (h : W c g nd N L) {m : Msg} (hm : MOk g m) (hs : g.sent m.fr.toNat m.to.toNat (absM m)) : Nxt Mono (c.come m) g nd N (L + 1) := by
  have hto := hm.to
  obtain ⟨K, hK⟩ : ∃ K, m.to.toNat = K := ⟨_, rfl⟩
  have hK3 : K < 3 := by omega
  have hst := h.st hK3
  rw [hK] at hs
  obtain ⟨g', nd', x', a, b, c1, d⟩ := hst.come hm (by omega) hs
  have hme : ((c.nd K).come m).1.me = K := c1.nr.me
  obtain ⟨nd2, e2, e3⟩ := h.node (P := Mono) Mono.refl hK3 a c1 d (cnt_come (c.nd K) m) b
  refine ⟨g', nd2, a.le, ?_, e3⟩
  unfold Crw.come
  rw [hK]
  simp only
  have e4 : (if ((c.nd K).come m).2.2 = true then c.led ++ [(((c.nd K).come m).1.term, ((c.nd K).come m).1.me)] else c.led) = (if ((c.nd K).come m).2.2 = true then c.led ++ [(((c.nd K).come m).1.term, (K : Int))] else c.led) := by rw [hme]
  rw [e4]
  exact e2.up (Nat.le_refl _) (by split <;> omega)
theorem W.comes : ∀ (l : List Msg) {c : Crw} {g : RGh} {nd : Nat → RNd} {N L : Nat}, W c g nd N L → (∀ m ∈ l, MOk g m ∧ g.sent m.fr.toNat m.to.toNat (absM m)) → Nxt Mono (c.comes l) g nd N (L + l.length)
  | [], c, g, nd, N, L, h, _ => ⟨g, nd, Raft.GhLe.refl g, h, fun _ _ => Mono.refl _⟩
  | m :: l, c, g, nd, N, L, h, hl => by
    obtain ⟨a, b⟩ := hl m (List.mem_cons_self ..)
    obtain ⟨g1, nd1, h1, h2, h3⟩ := h.come a b
    obtain ⟨g2, nd2, k1, k2, k3⟩ := W.comes l h2 fun q hq => let ⟨a, b⟩ := hl q (List.mem_cons_of_mem _ hq); ⟨a.le h1, h1.sent _ _ _ b⟩
    refine ⟨g2, nd2, h1.trans k1, ?_, fun K hK => (h3 K hK).trans (k3 K hK)⟩
    rw [List.length_cons, show L + (l.length + 1) = L + 1 + l.length by omega]
    exact k2
theorem W.aw {c : Crw} {g : RGh} {nd : Nat → RNd} {N L : Nat} (h : W c g nd N L) {l : List Msg} (h1 : ∀ m ∈ l, MOk g m ∧ g.sent m.fr.toNat m.to.toNat (absM m)) (h2 : l.length ≤ 300) : W { c with away := l } g nd N L :=
  { h with nr := fun K hK => h.nr K hK, away := h1, awl := h2, wts := fun K hK => h.wts K hK, clk := fun K hK => h.clk K hK }
theorem mem_putAway : ∀ (l a : List Msg) (m : Msg), m ∈ putAway a l → m ∈ a ∨ m ∈ l
  | [], a, m, h => .inl h
  | x :: l, a, m, h => by
    rcases mem_putAway l _ m h with h | h
    · split at h
      · rcases List.mem_append.1 h with h | h
        · exact .inl h
        · rw [List.mem_singleton] at h; subst h; exact .inr (List.mem_cons_self ..)
      · exact .inl h
    · exact .inr (List.mem_cons_of_mem _ h)
theorem len_putAway : ∀ (l a : List Msg), a.length ≤ 300 → (putAway a l).length ≤ 300
  | [], _, h => h
  | x :: l, a, h => len_putAway l _ (by
    split
    · simp; omega
    · exact h)
theorem W.do {c : Crw} {g : RGh} {nd : Nat → RNd} {N L : Nat} (h : W c g nd N L) {a : Act} (ha : a.check = 0) : Nxt (fun x x' => a.kind ≠ 9 → Mono x x') (c.do a) g nd (N + 1) (L + 301) := by
  obtain ⟨a1, a2, a3, a4, a5, a6, a7, a8⟩ := Act.good ha
  have hno : 0 ≤ a.node ∧ a.node < 3 := by
    cases hn : hasN a.kind with
    | true => exact a3 hn
    | false => have := a5 hn; omega
  obtain ⟨K, hK⟩ : ∃ K, a.node.toNat = K := ⟨_, rfl⟩
  have hK3 : K < 3 := by omega
  have hst := h.st hK3
  have hself : ∀ x : RNd, a.kind ≠ 9 → Mono x x := fun x _ => Mono.refl x
  have same : ∀ c', W c' g nd (N + 1) (L + 301) → Nxt (fun x x' => a.kind ≠ 9 → Mono x x') c' g nd (N + 1) (L + 301) := fun c' h' => ⟨g, nd, Raft.GhLe.refl g, h', fun _ _ => hself _⟩
  have node0 : ∀ {g' : RGh} {nd' : Nat → RNd} {n' : Nd} {x' : RNd} {T : List Tol} {d : Nat}, Ev K g g' nd nd' → g'.led = g.led → St g' nd' K n' x' → (a.kind ≠ 9 → Mono (nd K) x') → Cnt (c.nd K) n' T d → d ≤ 1 → ∃ nd2, W { c.set K n' with told := c.told ++ T } g' nd2 (N + 1) (L + 301) ∧ ∀ J, J < 3 → a.kind ≠ 9 → Mono (nd J) (nd2 J) := by
    intro g' nd' n' x' T d he hl hs hm hc hd
    obtain ⟨nd2, e2, e3⟩ := h.node (P := fun x x' => a.kind ≠ 9 → Mono x x') hself hK3 (b := false) (t := 0) he hs hm hc hl
    refine ⟨nd2, ?_, e3⟩
    have hled : (c.set K n').led = c.led := by
      have h1 : K = 0 ∨ K = 1 ∨ K = 2 := by omega
      rcases h1 with rfl | rfl | rfl <;> rfl
    have : ({ c.set K n' with told := c.told ++ T } : Crw) = { c.set K n' with told := c.told ++ T, led := if false = true then c.led ++ [((0 : Int), (K : Int))] else c.led } := by rw [← hled]; rfl
    rw [this]
    exact e2.up (by omega) (by simp)
  have nodeN : ∀ {g' : RGh} {nd' : Nat → RNd} {n' : Nd} {x' : RNd} {d : Nat}, Ev K g g' nd nd' → g'.led = g.led → St g' nd' K n' x' → (a.kind ≠ 9 → Mono (nd K) x') → Cnt (c.nd K) n' [] d → d ≤ 1 → ∃ nd2, W (c.set K n') g' nd2 (N + 1) (L + 301) ∧ ∀ J, J < 3 → a.kind ≠ 9 → Mono (nd J) (nd2 J) := by
    intro g' nd' n' x' d he hl hs hm hc hd
    have h1 := node0 he hl hs hm hc hd
    rw [List.append_nil] at h1
    have htl : (c.set K n').told = c.told := by
      have h1 : K = 0 ∨ K = 1 ∨ K = 2 := by omega
      rcases h1 with rfl | rfl | rfl <;> rfl
    have : c.set K n' = { c.set K n' with told := c.told } := by rw [← htl]
    rw [this]; exact h1
  have nodeL : ∀ {g' : RGh} {nd' : Nat → RNd} {c' : Crw}, Ev K g g' nd nd' → (∃ nd2, W c' g' nd2 (N + 1) (L + 301) ∧ ∀ J, J < 3 → a.kind ≠ 9 → Mono (nd J) (nd2 J)) → ∃ nd2, Raft.GhLe tmI g g' ∧ W c' g' nd2 (N + 1) (L + 301) ∧ ∀ J, J < 3 → a.kind ≠ 9 → Mono (nd J) (nd2 J) := fun he ⟨nd2, e1, e2⟩ => ⟨nd2, he.le, e1, e2⟩
  have keepN : ∀ {n' : Nd}, Kee (c.nd K) { n' with up := (c.nd K).up, clock := (c.nd K).clock } → (∀ x, NR g K (c.nd K) x → NR g K n' x) → Cnt (c.nd K) n' [] 0 → Nxt (fun x x' => a.kind ≠ 9 → Mono x x') (c.set K n') g nd (N + 1) (L + 301) := by
    intro n' _ hr hc
    exact ⟨g, nodeL (Ev.refl K g nd) (nodeN (Ev.refl K g nd) rfl ⟨h.inv, h.inv.nd K hK3, h.gi, hK3, hr _ (h.nr K hK3)⟩ (fun _ => Mono.refl _) hc (by omega))⟩
  unfold Crw.do
  rw [hK]
  simp only
  split
  · obtain ⟨g', nd', x', e1, e2, e3, e4⟩ := hst.ask a.call
    exact ⟨g', nodeL e1 (node0 e1 e2 e3 (fun _ => e4) (cnt_ask _ _) (by omega))⟩
  · split
    · rename_i k5
      have hp := a4 (by rw [k5]; rfl)
      exact keepN ⟨rfl, rfl, rfl, rfl, rfl⟩ (fun x hx => { hx with tape := hx.tape.keep rfl rfl rfl rfl }) (Cnt.of rfl (Int.le_refl _) (fun k => by unfold CkOk at k ⊢; simp only; split <;> omega))
    · split
      · exact keepN ⟨rfl, rfl, rfl, rfl, rfl⟩ (fun x hx => { hx with tape := hx.tape.keep rfl rfl rfl rfl }) (Cnt.of rfl (Int.le_refl _) (fun k => k))
      · split
        · rename_i hk
          split
          · exact same _ (h.up (by omega) (by omega))
          · rename_i m hm
            have hmm := h.away m (List.mem_of_getElem? hm)
            have hw : W { c with away := c.away.eraseIdx (c.pick a) } g nd N L := h.aw (fun q hq => h.away q (List.mem_of_mem_eraseIdx hq)) (by have := h.awl; have := List.length_eraseIdx_le c.away (c.pick a); omega)
            split
            · obtain ⟨g', nd', e1, e2, e3⟩ := hw.come hmm.1 hmm.2
              exact ⟨g', nd', e1, e2.up (by omega) (by omega), fun J hJ _ => e3 J hJ⟩
            · exact same _ (hw.up (by omega) (by omega))
        · split
          · split
            · exact same _ (h.up (by omega) (by omega))
            · rename_i m hm
              split
              · rename_i hlt
                refine same _ (W.up (h.aw (fun q hq => ?_) (by simp; omega)) (by omega) (by omega))
                rcases List.mem_append.1 hq with hq | hq
                · exact h.away q hq
                · rw [List.mem_singleton] at hq; subst hq; exact h.away q (List.mem_of_getElem? hm)
              · exact same _ (h.up (by omega) (by omega))
          · split
            · have hw : W { c with away := [] } g nd N L := h.aw (fun q hq => by cases hq) (by simp)
              obtain ⟨g', nd', e1, e2, e3⟩ := hw.comes c.away h.away
              exact ⟨g', nd', e1, e2.up (by omega) (by have := h.awl; omega), fun J hJ _ => e3 J hJ⟩
            · split
              · rename_i k1 k5 k10 k67 k8 k12 hu
                unfold Crw.act
                rw [hK]
                simp only
                split
                · obtain ⟨x', e1, e2, e3⟩ := hst.standAct
                  exact ⟨g, nodeL (Ev.refl K g nd) (nodeN (Ev.refl K g nd) rfl e1 (fun _ => ⟨by rw [e2]; exact Int.le_refl _, by rw [e3]; exact Nat.le_refl _, by rw [e2]; exact Nat.le_refl _⟩) (kee_standAct _).cnt (by omega))⟩
                · split
                  · split
                    · rename_i hr
                      obtain ⟨o, ho⟩ := hst.heap (by have := hst.nr.role; omega)
                      exact ⟨g, nodeL (Ev.refl K g nd) (nodeN (Ev.refl K g nd) rfl ho (fun _ => ⟨Int.le_refl _, Nat.le_refl _, Nat.le_refl _⟩) (kee_heap _).cnt (by omega))⟩
                    · exact same _ (h.up (by omega) (by omega))
                  · split
                    · obtain ⟨g', nd', x', e1, e2, e3, e4, e5, e6⟩ := hst.sync
                      obtain ⟨nd2, f2, f3⟩ := nodeN e1 e2 e3 (fun _ => ⟨by rw [e4]; exact Int.le_refl _, by rw [e5]; exact Nat.le_refl _, by rw [e4]; exact Nat.le_refl _⟩) (Cnt.of rfl (Int.le_refl _) (fun k => k)) (by omega)
                      refine ⟨g', nd2, e1.le, f2.aw (fun q hq => ?_) (len_putAway _ _ h.awl), f3⟩
                      rcases mem_putAway _ _ _ hq with hq | hq
                      · obtain ⟨p1, p2⟩ := h.away q hq
                        exact ⟨p1.le e1.le, e1.le.sent _ _ _ p2⟩
                      · exact e6 q hq
                    · split
                      · obtain ⟨x', e1⟩ := hst.crash (keep := a.pick) (by have := a4 (by rename_i k9; rw [k9]; rfl); omega)
                        exact ⟨g, nodeL (Ev.refl K g nd) (nodeN (Ev.refl K g nd) rfl e1 (fun e => absurd (by assumption) e) (Cnt.nil rfl (fun k => k)) (by omega))⟩
                      · split
                        · obtain ⟨x', e1, e2, e3, e4, e5⟩ := hst.trim
                          exact ⟨g, nodeL (Ev.refl K g nd) (nodeN (Ev.refl K g nd) rfl e1 (fun _ => ⟨by rw [e3]; exact Int.le_refl _, by rw [e4]; exact Nat.le_refl _, e5⟩) (kee_trim _).cnt (by omega))⟩
                        · exact same _ (h.up (by omega) (by omega))
              · exact same _ (h.up (by omega) (by omega))
end Go.Proofs.YtkkleopmambcnaaGreatDoor
set_option linter.unusedVariables false
set_option linter.unusedSimpArgs false
set_option maxRecDepth 100000
set_option maxHeartbeats 8000000
namespace Go.Proofs.YtkkleopmambcnaaGreatDoor
open Go Go.RowKit Go.Proofs.AE
def begN (i : Int) : Nd := { freshN i newD with up := true }
def begC : Crw := ⟨begN 0, begN 1, begN 2, [], [], []⟩
def runC (l : List Act) : Crw := l.foldl Crw.do begC
theorem runC_snoc (l : List Act) (a : Act) : runC (l ++ [a]) = (runC l).do a := by unfold runC; rw [List.foldl_append]; rfl
theorem runC_take {l : List Act} {i : Nat} {a : Act} (h : l[i]? = some a) : runC (l.take (i + 1)) = (runC (l.take i)).do a := by
  rw [List.take_add_one, h, Option.toList_some, runC_snoc]
def g0 : RGh := ⟨fun _ _ _ => False, fun _ => [], fun _ => none, fun _ _ => none, fun _ => 0⟩
def x0 : RNd := ⟨[], ⟨0, -1, [], 0⟩, 0, fun _ => false, fun _ => 0, 0, fun _ _ => False⟩
end Go.Proofs.YtkkleopmambcnaaGreatDoor
set_option linter.unusedVariables false
set_option linter.unusedSimpArgs false
set_option maxRecDepth 100000
set_option maxHeartbeats 8000000
namespace Go.Proofs.YtkkleopmambcnaaGreatDoor
open Go Go.RowKit Go.Proofs.AE
variable {G : Nat → AV}
abbrev zeroNC : List C := [iC 0, bCr false, iC 0, iC 0, iC 0, iC 0, iC 0, iC 0, .nil, iC 0, iC 0, iC 0, .nil, iC 0, .nil, iC 0, .nil, iC 0, .nil, iC 0, bCr false, bCr false, bCr false, iC 0, iC 0, iC 0, iC 0, iC 0, iC 0, .nil, .nil, iC 0, .nil]
abbrev begNC (i : Int) : List C := [iC i, bCr true, iC 0, iC 0, iC 0, iC (-1), iC 0, iC 0, .v (.sl []), iC 0, iC 0, iC 0, .v (.sl []), iC 1, .v (.sl []), iC 0, .v (.sl []), iC 1, .v (.sl []), iC 0, bCr false, bCr false, bCr false, iC 0, iC 0, iC 0, iC 0, iC 0, iC 0, .nil, .v (.sl []), iC 0, .nil]
abbrev begCs (i : Nat) : List C := (if 0 < i then begNC 0 else zeroNC) ++ (if 1 < i then begNC 1 else zeroNC) ++ (if 2 < i then begNC 2 else zeroNC) ++ [.nil, .nil, .nil]
def viewR (n : Nd) : List V := [.lit (.bool n.up), iL n.term, .lit (.bool (n.role == 3)), iL n.commit, iL n.log.base, iL n.log.bt, .sl (n.log.items.map Item.row), iL n.mach.sto.now, .sl (eR n.mach.sto.ents), iL n.mach.next, .sl (clR n.mach.clis)]
def tolRs (l : List Tol) (j : Nat) : List (List V) := (l.take j).map Tol.row
theorem tolRs_zero (l : List Tol) : tolRs l 0 = [] := rfl
theorem tolRs_all (l : List Tol) : tolRs l l.length = l.map Tol.row := by unfold tolRs; rw [List.take_length]
theorem tolRs_len (l : List Tol) {j : Nat} (h : j ≤ l.length) : (tolRs l j).length = j := by unfold tolRs; simp; omega
theorem tolRs_succ {l : List Tol} {j : Nat} {b : Tol} (h : l[j]? = some b) : tolRs l (j + 1) = tolRs l j ++ [b.row] := by unfold tolRs; rw [List.take_add_one, h]; simp
theorem tolRs_ul (l : List Tol) (j : Nat) : UL 12 (tolRs l j) := tol_ul _
abbrev stB (G : Nat → AV) (fr : List (Nat × AV)) : S := ⟨fr, G, [some (.box 36 zOut), some (.box 113 (begNC 0 ++ begNC 1 ++ begNC 2 ++ [.nil, .nil, .nil]))]⟩
abbrev begNA (i : Int) (w o : Nat) : List C := [iC i, bCr true, iC 0, iC 0, iC 0, iC (-1), iC 0, iC 0, .v (.sl []), iC 0, iC 0, iC 0, .v (.sl []), iC 1, .v (.sl []), iC 0, .v (.sl []), iC 1, .v (.sl []), iC 0, bCr false, bCr false, bCr false, iC 0, iC 0, iC 0, iC 0, iC 0, iC 0, .ar w, .v (.sl []), iC 0, .ar o]
theorem thaw9 (fr : List (Nat × AV)) : Weak 0 (stB G fr) ⟨fr, G, [some (.box 36 zOut), some (.box 113 (begNA 0 5 8 ++ begNA 1 6 9 ++ begNA 2 7 10 ++ [.ar 2, .ar 3, .ar 4])), some (.arr 144 15 []), some (.arr 77 12 []), some (.arr 61 2 []), some (.arr 176 9 []), some (.arr 176 9 []), some (.arr 176 9 []), some (.arr 144 15 []), some (.arr 144 15 []), some (.arr 144 15 [])]⟩ := by
  unfold stB
  simp only [List.cons_append, List.nil_append]
  refine Weak.trans (weak_thaw 1 99 144 15 rfl rfl (by decide)) ?_
  simp only [List.set_cons_succ, List.set_cons_zero, List.length_cons, List.length_nil, List.cons_append, List.nil_append, Nat.zero_add, Nat.reduceAdd]
  refine Weak.trans (weak_thaw 1 100 77 12 rfl rfl (by decide)) ?_
  simp only [List.set_cons_succ, List.set_cons_zero, List.length_cons, List.length_nil, List.cons_append, List.nil_append, Nat.zero_add, Nat.reduceAdd]
  refine Weak.trans (weak_thaw 1 101 61 2 rfl rfl (by decide)) ?_
  simp only [List.set_cons_succ, List.set_cons_zero, List.length_cons, List.length_nil, List.cons_append, List.nil_append, Nat.zero_add, Nat.reduceAdd]
  refine Weak.trans (weak_thaw 1 29 176 9 rfl rfl (by decide)) ?_
  simp only [List.set_cons_succ, List.set_cons_zero, List.length_cons, List.length_nil, List.cons_append, List.nil_append, Nat.zero_add, Nat.reduceAdd]
  refine Weak.trans (weak_thaw 1 62 176 9 rfl rfl (by decide)) ?_
  simp only [List.set_cons_succ, List.set_cons_zero, List.length_cons, List.length_nil, List.cons_append, List.nil_append, Nat.zero_add, Nat.reduceAdd]
  refine Weak.trans (weak_thaw 1 95 176 9 rfl rfl (by decide)) ?_
  simp only [List.set_cons_succ, List.set_cons_zero, List.length_cons, List.length_nil, List.cons_append, List.nil_append, Nat.zero_add, Nat.reduceAdd]
  refine Weak.trans (weak_thaw 1 32 144 15 rfl rfl (by decide)) ?_
  simp only [List.set_cons_succ, List.set_cons_zero, List.length_cons, List.length_nil, List.cons_append, List.nil_append, Nat.zero_add, Nat.reduceAdd]
  refine Weak.trans (weak_thaw 1 65 144 15 rfl rfl (by decide)) ?_
  simp only [List.set_cons_succ, List.set_cons_zero, List.length_cons, List.length_nil, List.cons_append, List.nil_append, Nat.zero_add, Nat.reduceAdd]
  refine Weak.trans (weak_thaw 1 98 144 15 rfl rfl (by decide)) ?_
  simp only [List.set_cons_succ, List.set_cons_zero, List.length_cons, List.length_nil, List.cons_append, List.nil_append, Nat.zero_add, Nat.reduceAdd]
  exact Weak.refl _ _
def viewsR (c : Crw) (i : Nat) : List (List V) := (if 0 < i then [viewR c.n0] else []) ++ (if 1 < i then [viewR c.n1] else []) ++ (if 2 < i then [viewR c.n2] else [])
theorem runA (l : List Act) (hl : l.length ≤ 3000) (hg : ∀ a ∈ l, a.check = 0) (C : Nat → Crw) (hC0 : C 0 = begC) (led' : List (List V)) (hsort : DetCall Tryz.prog G 39 1 [some (.arr 61 2 ((C l.length).led.map leadR))] [.one (.ar 0), .fn 40 [] []] (.tup []) [some (.arr 61 2 led')]) (htol : ∀ t ∈ (C l.length).told, t.rep.list.length ≤ 1000) (htl : (C l.length).told.length ≤ 100000) (hit : ∀ K, K < 3 → ((C l.length).nd K).log.items.length ≤ 200) (hcopy : ∀ K, K < 3 → PCall Tryz.prog G 42 [.agg ((C l.length).nd K).mach.c] (.agg ((C l.length).nd K).mach.c))
    (hdo : ∀ i a, l[i]? = some a → DetCall Tryz.prog G 37 1 (C i).hp [.one (.ptr 0 0), .agg a.c] (.tup []) (C (i + 1)).hp) : PCall Tryz.prog G 17 [.one (.v (.sl (l.map Act.row)))] (.tup [.agg [.v (.sl [viewR (C l.length).n0, viewR (C l.length).n1, viewR (C l.length).n2]), .v (.sl ((C l.length).told.map Tol.row)), .v (.sl led'), iC (C l.length).away.length], iV 0]) := by
  have q1 : decide (3000 < (l.length : Int)) = false := decide_eq_false (by omega)
  have q1' : decide (3000 < l.length) = false := decide_eq_false (by omega)
  have hrl : (l.map Act.row).length = l.length := by simp
  have hne := newDc_c (G := G)
  refine pcallc mixed Tryz.func17 ac_crew_Run ?_
  repeat' (first | (with_reducible first | refine Cn (fun h => ?_) fun h => ?_ | refine And.intro ?_ ?_ | refine wR ?_ | exact wr _ _ | refine weak_autoC ?_ | apply awp_join) | (with_reducible refine CallZ.z ?_) | simp -dsimp [go_sem, q1, q1', hrl, clean_nil, clean_cons, clean_yes, clean_no])
  refine awp_loop (fun i : Nat => ⟨[(0, .one (.v (.sl (l.map Act.row)))), (2, .one (.ptr 0 0)), (21, .one (.v (.sl (l.map Act.row)))), (22, iV l.length), (23, iV i)], G, [some (.box 36 zOut)]⟩) (fun i => i ≤ l.length) (fun i => l.length - i) 0 (weak_auto ?_) (Nat.zero_le _) ?_
  · simp -dsimp [go_sem, hrl]
  · intro i hi
    by_cases hik : i < l.length
    · obtain ⟨b, hbi⟩ : ∃ b, l[i]? = some b := ⟨_, List.getElem?_eq_getElem hik⟩
      have hr : (l.map Act.row)[i]? = some b.row := by simp [hbi]
      have q2 : decide ((i : Int) < (l.length : Int)) = true := decide_eq_true (by omega)
      have q2' : decide (i < l.length) = true := decide_eq_true (by omega)
      have e4 : IntKind.i64.wrap ((i : Int) + 1) = (i : Int) + 1 := IntWalk.i64_in _ (by omega)
      have hc := checkA_c (G := G) b
      rw [hg b (List.mem_of_getElem? hbi)] at hc
      have hag : i + 1 ≤ l.length := by omega
      obtain ⟨ak, an, ap, ⟨cl, sq, ⟨ck, ca, cb, cd, cn⟩⟩⟩ := b
      simp only [Act.row, Act.c] at hr hc
      repeat' (first | (with_reducible first | refine Cn (fun h => ?_) fun h => ?_ | refine And.intro ?_ ?_ | refine wR ?_ | exact wr _ _ | refine weak_autoC ?_ | apply awp_join | refine q hc ?_ | refine qd hc ?_ | refine qz hc ?_) | (with_reducible refine CallZ.z ?_) | simp -dsimp [go_sem, hr, q2, q2', e4, hrl, clean_nil, clean_cons, clean_yes, clean_no])
      all_goals first
        | omega
        | (refine Again.auto (i + 1) ?_ hag (by omega)
           simp -dsimp [go_sem]; done)
        | trace_state
    · have hie : i = l.length := by omega
      subst hie
      have q2 : decide ((l.length : Int) < (l.length : Int)) = false := decide_eq_false (by omega)
      have q2' : decide (l.length < l.length) = false := decide_eq_false (by omega)
      repeat' (first | (with_reducible first | refine Cn (fun h => ?_) fun h => ?_ | refine And.intro ?_ ?_ | refine wR ?_ | exact wr _ _ | refine weak_autoC ?_ | apply awp_join) | (with_reducible refine CallZ.z ?_) | simp -dsimp [go_sem, q2, q2', hrl, clean_nil, clean_cons, clean_yes, clean_no])
      refine awp_loop (fun i : Nat => ⟨[(0, .one (.v (.sl (l.map Act.row)))), (2, .one (.ptr 0 0)), (7, .one (.ptr 1 0)), (36, iV i)], G, [some (.box 36 zOut), some (.box 113 (begCs i))]⟩) (fun i => i ≤ 3) (fun i => 3 - i) 0 (weak_auto ?_) (Nat.zero_le _) ?_
      · simp only [begCs, Nat.lt_irrefl, Nat.not_lt_zero, if_false, List.cons_append, List.nil_append]
        simp -dsimp [go_sem]
      · intro i hi
        have hi3 : i = 0 ∨ i = 1 ∨ i = 2 ∨ i = 3 := by omega
        have f0 := fresh_c (G := G) 0 newD
        have f1 := fresh_c (G := G) 1 newD
        have f2 := fresh_c (G := G) 2 newD
        simp only [newD, newM, zeroS, zeroLg, Dsk.c, Mach.c, Lg.c, logC, freshC, List.map_nil, List.cons_append, List.nil_append] at f0 f1 f2
        have wr1 : IntKind.i64.wrap 1 = 1 := IntWalk.i64_in _ (by omega)
        have wr2 : IntKind.i64.wrap (1 + 1) = 2 := IntWalk.i64_in _ (by omega)
        have wr3 : IntKind.i64.wrap (2 + 1) = 3 := IntWalk.i64_in _ (by omega)
        have wr2' : IntKind.i64.wrap 2 = 2 := IntWalk.i64_in _ (by omega)
        have wr3' : IntKind.i64.wrap 3 = 3 := IntWalk.i64_in _ (by omega)
        rcases hi3 with rfl | rfl | rfl | rfl
        · simp only [begCs, Nat.lt_irrefl, Nat.not_lt_zero, if_false, List.cons_append, List.nil_append]
          repeat' (first | (with_reducible first | refine Cn (fun h => ?_) fun h => ?_ | refine And.intro ?_ ?_ | refine wR ?_ | exact wr _ _ | refine weak_autoC ?_ | apply awp_join | refine q hne ?_ | refine qd hne ?_ | refine qz hne ?_ | refine q f0 ?_ | refine qd f0 ?_ | refine qz f0 ?_) | (with_reducible refine CallZ.z ?_) | simp -dsimp [go_sem, wr1, wr2, wr3, wr2', wr3', clean_nil, clean_cons, clean_yes, clean_no])
          all_goals first
            | omega
            | (refine Again.auto 1 ?_ (by omega) (by omega)
               simp only [begCs, if_true, if_false, Nat.lt_irrefl, Nat.zero_lt_one, show ¬ 2 < 1 by omega, List.cons_append, List.nil_append]
               simp -dsimp [go_sem]; done)
            | trace_state
        · simp only [begCs, if_true, if_false, Nat.lt_irrefl, Nat.zero_lt_one, show ¬ 2 < 1 by omega, List.cons_append, List.nil_append]
          repeat' (first | (with_reducible first | refine Cn (fun h => ?_) fun h => ?_ | refine And.intro ?_ ?_ | refine wR ?_ | exact wr _ _ | refine weak_autoC ?_ | apply awp_join | refine q hne ?_ | refine qd hne ?_ | refine qz hne ?_ | refine q f1 ?_ | refine qd f1 ?_ | refine qz f1 ?_) | (with_reducible refine CallZ.z ?_) | simp -dsimp [go_sem, wr1, wr2, wr3, wr2', wr3', clean_nil, clean_cons, clean_yes, clean_no])
          all_goals first
            | omega
            | (refine Again.auto 2 ?_ (by omega) (by omega)
               simp only [begCs, if_true, if_false, Nat.lt_irrefl, show 0 < 2 by omega, show 1 < 2 by omega, List.cons_append, List.nil_append]
               simp -dsimp [go_sem]; done)
            | trace_state
        · simp only [begCs, if_true, if_false, Nat.lt_irrefl, show 0 < 2 by omega, show 1 < 2 by omega, List.cons_append, List.nil_append]
          repeat' (first | (with_reducible first | refine Cn (fun h => ?_) fun h => ?_ | refine And.intro ?_ ?_ | refine wR ?_ | exact wr _ _ | refine weak_autoC ?_ | apply awp_join | refine q hne ?_ | refine qd hne ?_ | refine qz hne ?_ | refine q f2 ?_ | refine qd f2 ?_ | refine qz f2 ?_) | (with_reducible refine CallZ.z ?_) | simp -dsimp [go_sem, wr1, wr2, wr3, wr2', wr3', clean_nil, clean_cons, clean_yes, clean_no])
          all_goals first
            | omega
            | (refine Again.auto 3 ?_ (by omega) (by omega)
               simp only [begCs, if_true, show 0 < 3 by omega, show 1 < 3 by omega, show 2 < 3 by omega, List.cons_append, List.nil_append]
               simp -dsimp [go_sem]; done)
            | trace_state
        · simp only [begCs, if_true, show 0 < 3 by omega, show 1 < 3 by omega, show 2 < 3 by omega, List.cons_append, List.nil_append]
          repeat' (first | (with_reducible first | refine Cn (fun h => ?_) fun h => ?_ | refine And.intro ?_ ?_ | refine wR ?_ | exact wr _ _ | refine weak_autoC ?_ | apply awp_join) | (with_reducible refine CallZ.z ?_) | simp -dsimp [go_sem, clean_nil, clean_cons, clean_yes, clean_no])
          refine awp_loop (fun i : Nat => ⟨[(0, .one (.v (.sl (l.map Act.row)))), (2, .one (.ptr 10 0)), (7, .one (.ptr 0 0)), (54, .one (.v (.sl (l.map Act.row)))), (55, iV l.length), (56, iV i)], G, (C i).hp ++ [some (.box 36 zOut)]⟩) (fun i => i ≤ l.length) (fun i => l.length - i) 0
            (Weak.trans (thaw9 _) (weak_auto ?_)) (Nat.zero_le _) ?_
          · simp only [hC0, begC, begN, freshN, newD, newM, zeroS, zeroLg, Crw.hp, Nd.cs, List.map_nil, List.cons_append, List.nil_append]
            simp -dsimp [go_sem, hrl]
            try rfl
          · intro i hi
            by_cases hik : i < l.length
            · obtain ⟨b, hbi⟩ : ∃ b, l[i]? = some b := ⟨_, List.getElem?_eq_getElem hik⟩
              have hr : (l.map Act.row)[i]? = some b.row := by simp [hbi]
              have q2 : decide ((i : Int) < (l.length : Int)) = true := decide_eq_true (by omega)
              have q2' : decide (i < l.length) = true := decide_eq_true (by omega)
              have e4 : IntKind.i64.wrap ((i : Int) + 1) = (i : Int) + 1 := IntWalk.i64_in _ (by omega)
              have hc := hdo i b hbi
              have hag : i + 1 ≤ l.length := by omega
              obtain ⟨ak, an, ap, ⟨cl, sq, ⟨ck, ca, cb, cd, cn⟩⟩⟩ := b
              simp only [Act.row] at hr
              generalize hC1 : C (i + 1) = d1 at *
              generalize C i = d0 at *
              simp only [Act.c, Crw.hp, Nd.cs, List.cons_append, List.nil_append] at hc ⊢
              repeat' (first | (with_reducible first | refine Cn (fun h => ?_) fun h => ?_ | refine And.intro ?_ ?_ | refine wR ?_ | exact wr _ _ | refine weak_autoC ?_ | apply awp_join | refine qg hc ?_ | refine qgd hc ?_) | (with_reducible refine CallZ.z ?_) | simp -dsimp [go_sem, hr, q2, q2', e4, hrl, clean_nil, clean_cons, clean_yes, clean_no])
              all_goals first
                | omega
                | (refine Again.auto (i + 1) ?_ hag (by omega)
                   simp only [hC1, Crw.hp, Nd.cs, List.cons_append, List.nil_append]
                   simp -dsimp [go_sem]; done)
                | trace_state
            · have hie : i = l.length := by omega
              subst hie
              have q2 : decide ((l.length : Int) < (l.length : Int)) = false := decide_eq_false (by omega)
              have q2' : decide (l.length < l.length) = false := decide_eq_false (by omega)
              generalize C l.length = d at *
              have hal : (d.away.map Msg.row).length = d.away.length := by simp
              simp only [Crw.hp, Nd.cs, List.cons_append, List.nil_append]
              repeat' (first | (with_reducible first | refine Cn (fun h => ?_) fun h => ?_ | refine And.intro ?_ ?_ | refine wR ?_ | exact wr _ _ | refine weak_autoC ?_ | apply awp_join) | (with_reducible refine CallZ.z ?_) | simp -dsimp [go_sem, q2, q2', hrl, clean_nil, clean_cons, clean_yes, clean_no])
              refine awp_loop (fun j : Nat => ⟨[(2, .one (.ptr 10 0)), (7, .one (.ptr 0 0)), (11, .one (.ptr 11 0)), (77, .one (.ar 2)), (78, iV d.told.length), (79, iV j)], G, d.hp ++ [some (.box 36 zOut), some (.box 36 [.nil, .ar 12, .ar 3, iC d.away.length]), some (.arr 77 12 (tolRs d.told j))]⟩) (fun j => j ≤ d.told.length) (fun j => d.told.length - j) 0 (Weak.trans (weak_thaw 11 1 77 12 rfl rfl (by decide)) (weak_auto ?_)) (Nat.zero_le _) ?_
              · simp only [Crw.hp, Nd.cs, tolRs_zero, List.cons_append, List.nil_append]
                simp -dsimp [go_sem]
              · intro j hj
                have hul := tolRs_ul d.told j
                have hjl := tolRs_len d.told hj
                by_cases hjk : j < d.told.length
                · obtain ⟨b, hbi⟩ : ∃ b, d.told[j]? = some b := ⟨_, List.getElem?_eq_getElem hjk⟩
                  have hr : (d.told.map Tol.row)[j]? = some b.row := by simp [hbi]
                  have q2 : decide ((j : Int) < (d.told.length : Int)) = true := decide_eq_true (by omega)
                  have q2' : decide (j < d.told.length) = true := decide_eq_true (by omega)
                  have e4 : IntKind.i64.wrap ((j : Int) + 1) = (j : Int) + 1 := IntWalk.i64_in _ (by omega)
                  have htr := htol b (List.mem_of_getElem? hbi)
                  have hag : j + 1 ≤ d.told.length := by omega
                  have hsu := tolRs_succ hbi
                  obtain ⟨tn, ⟨tc, tq, ⟨ck, ca, cb, cd, cn⟩⟩, ⟨rc, rt, rn, rl⟩⟩ := b
                  simp only at htr
                  have hcl := clone_string (G := G) (strRows rl) (ul_i rl) (by simp; omega)
                  simp only [Tol.row] at hr hsu
                  obtain ⟨Q, hQ⟩ : ∃ Q, tolRs d.told j = Q := ⟨_, rfl⟩
                  rw [hQ] at hul hjl hsu ⊢
                  simp only [Crw.hp, Nd.cs, List.cons_append, List.nil_append]
                  repeat' (first | (with_reducible first | refine Cn (fun h => ?_) fun h => ?_ | refine And.intro ?_ ?_ | refine wR ?_ | exact wr _ _ | refine weak_autoC ?_ | apply awp_join | refine q hcl ?_ | refine qd hcl ?_ | refine qz hcl ?_) | (exact ul_one rfl) | (with_reducible refine CallZ.z ?_) | simp -dsimp [go_sem, hr, q2, q2', e4, hul, hjl, clean_nil, clean_cons, clean_yes, clean_no])
                  all_goals first
                    | omega
                    | (refine Again.auto (j + 1) ?_ hag (by omega)
                       simp only [hsu, Crw.hp, Nd.cs, List.cons_append, List.nil_append]
                       simp -dsimp [go_sem]; done)
                    | trace_state
                · have hje : j = d.told.length := by omega
                  subst hje
                  have q2 : decide ((d.told.length : Int) < (d.told.length : Int)) = false := decide_eq_false (by omega)
                  have q2' : decide (d.told.length < d.told.length) = false := decide_eq_false (by omega)
                  rw [tolRs_all] at hul hjl ⊢
                  simp only [Crw.hp, Nd.cs, List.cons_append, List.nil_append]
                  repeat' (first | (with_reducible first | refine Cn (fun h => ?_) fun h => ?_ | refine And.intro ?_ ?_ | refine wR ?_ | exact wr _ _ | refine weak_autoC ?_ | apply awp_join | refine qg hsort ?_ | refine qgd hsort ?_) | (with_reducible refine CallZ.z ?_) | simp -dsimp [go_sem, q2, q2', clean_nil, clean_cons, clean_yes, clean_no])
                  refine awp_loop (fun i : Nat => ⟨[(2, .one (.ptr 10 0)), (11, .one (.ptr 11 0)), (102, .agg (d.n0.cs 4 7 ++ d.n1.cs 5 8 ++ d.n2.cs 6 9)), (103, iV i)], G, [none, none, none, some (.arr 61 2 led'), some (.arr 176 9 (d.n0.waits.map Wt.row)), some (.arr 176 9 (d.n1.waits.map Wt.row)), some (.arr 176 9 (d.n2.waits.map Wt.row)), some (.arr 144 15 (d.n0.out.map Msg.row)), some (.arr 144 15 (d.n1.out.map Msg.row)), some (.arr 144 15 (d.n2.out.map Msg.row)), some (.box 36 zOut), some (.box 36 [.ar 13, .ar 12, .ar 3, iC d.away.length]), some (.arr 77 12 (d.told.map Tol.row)), some (.arr 55 11 (viewsR d i))]⟩) (fun i => i ≤ 3) (fun i => 3 - i) 0 (Weak.trans (weak_thaw 11 0 55 11 rfl rfl (by decide)) (weak_auto ?_)) (Nat.zero_le _) ?_
                  · simp only [viewsR, Nat.not_lt_zero, if_false, Nd.cs, List.cons_append, List.nil_append]
                    simp -dsimp [go_sem]
                  · intro i hi
                    have hi3 : i = 0 ∨ i = 1 ∨ i = 2 ∨ i = 3 := by omega
                    have wr1 : IntKind.i64.wrap 1 = 1 := IntWalk.i64_in _ (by omega)
                    have wr2 : IntKind.i64.wrap (1 + 1) = 2 := IntWalk.i64_in _ (by omega)
                    have wr3 : IntKind.i64.wrap (2 + 1) = 3 := IntWalk.i64_in _ (by omega)
                    have wr2' : IntKind.i64.wrap 2 = 2 := IntWalk.i64_in _ (by omega)
                    have wr3' : IntKind.i64.wrap 3 = 3 := IntWalk.i64_in _ (by omega)
                    rcases hi3 with rfl | rfl | rfl | rfl
                    · simp only [viewsR, Nat.not_lt_zero, if_false, Nd.cs, List.cons_append, List.nil_append]
                      have c1 := clone_api_Item (G := G) (d.n0.log.items.map Item.row) (ul_rows _) (by simp; have := hit 0 (by omega); exact Nat.le_trans this (by omega))
                      have c2 := hcopy 0 (by omega)
                      simp only [Crw.nd, Mach.c, Sto.c, List.cons_append, List.nil_append] at c2
                      repeat' (first | (with_reducible first | refine Cn (fun h => ?_) fun h => ?_ | refine And.intro ?_ ?_ | refine wR ?_ | exact wr _ _ | refine weak_autoC ?_ | apply awp_join | refine q c1 ?_ | refine qd c1 ?_ | refine qz c1 ?_ | refine q c2 ?_ | refine qd c2 ?_ | refine qz c2 ?_) | (exact ul_one rfl) | (with_reducible refine CallZ.z ?_) | simp -dsimp [go_sem, wr1, wr2, wr3, wr2', wr3', clean_nil, clean_cons, clean_yes, clean_no])
                      all_goals first
                        | omega
                        | (refine Again.auto 1 ?_ (by omega) (by omega)
                           simp only [viewsR, viewR, Nat.zero_lt_one, if_true, if_false, Nat.lt_irrefl, show ¬ 2 < 1 by omega, Nd.cs, List.cons_append, List.nil_append]
                           simp -dsimp [go_sem]; done)
                        | trace_state
                    · simp only [viewsR, show 0 < 1 by omega, show ¬ 2 < 1 by omega, if_true, if_false, Nat.lt_irrefl, viewR, Nd.cs, List.cons_append, List.nil_append]
                      have c1 := clone_api_Item (G := G) (d.n1.log.items.map Item.row) (ul_rows _) (by simp; have := hit 1 (by omega); exact Nat.le_trans this (by omega))
                      have c2 := hcopy 1 (by omega)
                      simp only [Crw.nd, Mach.c, Sto.c, List.cons_append, List.nil_append] at c2
                      repeat' (first | (with_reducible first | refine Cn (fun h => ?_) fun h => ?_ | refine And.intro ?_ ?_ | refine wR ?_ | exact wr _ _ | refine weak_autoC ?_ | apply awp_join | refine q c1 ?_ | refine qd c1 ?_ | refine qz c1 ?_ | refine q c2 ?_ | refine qd c2 ?_ | refine qz c2 ?_) | (exact ul_one rfl) | (with_reducible refine CallZ.z ?_) | simp -dsimp [go_sem, wr1, wr2, wr3, wr2', wr3', clean_nil, clean_cons, clean_yes, clean_no])
                      all_goals first
                        | omega
                        | (refine Again.auto 2 ?_ (by omega) (by omega)
                           simp only [viewsR, viewR, show 0 < 2 by omega, show 1 < 2 by omega, if_true, if_false, Nat.lt_irrefl, Nd.cs, List.cons_append, List.nil_append]
                           simp -dsimp [go_sem]; done)
                        | (simp [UL]; done)
                        | trace_state
                    · simp only [viewsR, show 0 < 2 by omega, show 1 < 2 by omega, if_true, if_false, Nat.lt_irrefl, viewR, Nd.cs, List.cons_append, List.nil_append]
                      have c1 := clone_api_Item (G := G) (d.n2.log.items.map Item.row) (ul_rows _) (by simp; have := hit 2 (by omega); exact Nat.le_trans this (by omega))
                      have c2 := hcopy 2 (by omega)
                      simp only [Crw.nd, Mach.c, Sto.c, List.cons_append, List.nil_append] at c2
                      repeat' (first | (with_reducible first | refine Cn (fun h => ?_) fun h => ?_ | refine And.intro ?_ ?_ | refine wR ?_ | exact wr _ _ | refine weak_autoC ?_ | apply awp_join | refine q c1 ?_ | refine qd c1 ?_ | refine qz c1 ?_ | refine q c2 ?_ | refine qd c2 ?_ | refine qz c2 ?_) | (exact ul_one rfl) | (with_reducible refine CallZ.z ?_) | simp -dsimp [go_sem, wr1, wr2, wr3, wr2', wr3', clean_nil, clean_cons, clean_yes, clean_no])
                      all_goals first
                        | omega
                        | (refine Again.auto 3 ?_ (by omega) (by omega)
                           simp only [viewsR, viewR, show 0 < 3 by omega, show 1 < 3 by omega, show 2 < 3 by omega, if_true, if_false, Nat.lt_irrefl, Nd.cs, List.cons_append, List.nil_append]
                           simp -dsimp [go_sem]; done)
                        | (simp [UL]; done)
                        | trace_state
                    · simp only [viewsR, show 0 < 3 by omega, show 1 < 3 by omega, show 2 < 3 by omega, if_true, viewR, Nd.cs, List.cons_append, List.nil_append]
                      repeat' (first | (with_reducible first | refine Cn (fun h => ?_) fun h => ?_ | refine And.intro ?_ ?_ | refine wR ?_ | exact wr _ _ | refine weak_autoC ?_ | apply awp_join) | (with_reducible refine CallZ.z ?_) | simp -dsimp [go_sem, clean_nil, clean_cons, clean_yes, clean_no])
                      all_goals first | omega | trace_state
end Go.Proofs.YtkkleopmambcnaaGreatDoor
set_option linter.unusedVariables false
set_option linter.unusedSimpArgs false
set_option maxRecDepth 100000
set_option maxHeartbeats 8000000
namespace Go.Proofs.YtkkleopmambcnaaGreatDoor
open Go Go.RowKit Go.Proofs.AE
variable {G : Nat → AV}
end Go.Proofs.YtkkleopmambcnaaGreatDoor
set_option linter.unusedVariables false
set_option linter.unusedSimpArgs false
set_option maxRecDepth 100000
set_option maxHeartbeats 8000000
namespace Go.Proofs.YtkkleopmambcnaaGreatDoor
open Go Go.RowKit Go.Proofs.AE
variable {G : Nat → AV}
end Go.Proofs.YtkkleopmambcnaaGreatDoor
set_option linter.unusedVariables false
set_option linter.unusedSimpArgs false
set_option maxRecDepth 100000
set_option maxHeartbeats 8000000
namespace Go.Proofs.YtkkleopmambcnaaGreatDoor
open Go Go.RowKit Go.Proofs.AE
variable {G : Nat → AV}
abbrev hp2 (c : Crw) (m : Msg) : Hp := [some (.box 113 (c.n0.cs 11 14 ++ c.n1.cs 12 15 ++ c.n2.cs 13 16 ++ [.ar 1, .ar 2, .ar 3])),
  some (.arr 144 15 (c.away.map Msg.row)), some (.arr 77 12 (c.told.map Tol.row)), some (.arr 61 2 (c.led.map leadR)), none, none, none, none, none, none, some (.box 144 m.c),
  some (.arr 176 9 (c.n0.waits.map Wt.row)), some (.arr 176 9 (c.n1.waits.map Wt.row)), some (.arr 176 9 (c.n2.waits.map Wt.row)),
  some (.arr 144 15 (c.n0.out.map Msg.row)), some (.arr 144 15 (c.n1.out.map Msg.row)), some (.arr 144 15 (c.n2.out.map Msg.row))]
end Go.Proofs.YtkkleopmambcnaaGreatDoor
set_option linter.unusedVariables false
set_option linter.unusedSimpArgs false
set_option maxRecDepth 100000
set_option maxHeartbeats 8000000
namespace Go.Proofs.YtkkleopmambcnaaGreatDoor
open Go Go.RowKit Go.Proofs.AE
variable {G : Nat → AV}
end Go.Proofs.YtkkleopmambcnaaGreatDoor
set_option linter.unusedVariables false
set_option linter.unusedSimpArgs false
set_option maxRecDepth 100000
set_option maxHeartbeats 8000000
namespace Go.Proofs.YtkkleopmambcnaaGreatDoor
open Go Go.RowKit Go.Proofs.AE
variable {G : Nat → AV}
abbrev dnN (n : Nd) (x : Int × Mach × List Tol) : Nd := { n with commit := x.1, mach := x.2.1 }
structure DnA (n : Nd) (place : Int) (N : Nd) (TT : List Tol) (x : Int × Mach × List Tol) : Prop where
  base : n.log.base ≤ x.1
  le : x.1 ≤ 3000000
  room : place ≤ n.log.base + n.log.items.length ∨ place ≤ x.1
  ms : MS x.2.1
  len : x.2.2.length + (place - x.1).toNat * n.waits.length ≤ 90000000
  fin : (doGo (place - x.1).toNat (dnN n x)).1 = N
  fin2 : x.2.2 ++ (doGo (place - x.1).toNat (dnN n x)).2 = TT
def doneM (m : Mach) (x : Item) : Mach × Rep := if x.nop then (m, ⟨0, ⟨#[]⟩, 0, []⟩) else ((DoM m x.time x.cal).1, (DoM m x.time x.cal).2.1)
theorem doStep_eq {n : Nd} {x : Item} (h : n.log.items[(n.commit + 1 - n.log.base - 1).toNat]? = some x) : n.doStep = ({ n with commit := n.commit + 1, mach := (doneM n.mach x).1 }, waitTold n (n.commit + 1) x.term (doneM n.mach x).2) := by
  unfold Nd.doStep doneM
  rw [h]
  simp only
  split <;> rfl
theorem DnA.next {n : Nd} {place : Int} {N : Nd} {TT : List Tol} {cm : Int} {mm : Mach} {T : List Tol} (hbl : n.log.base + n.log.items.length ≤ 2000000) (h : DnA n place N TT (cm, mm, T)) (hlt : cm < place) {x : Item} (hx : n.log.items[(cm + 1 - n.log.base - 1).toNat]? = some x) :
    DnA n place N TT (cm + 1, (doneM mm x).1, T ++ waitTold (dnN n (cm + 1, (doneM mm x).1, T)) (cm + 1) x.term (doneM mm x).2) := by
  obtain ⟨h1, h2, h3, h4, h5, h6, h7⟩ := h
  simp only at h1 h2 h3 h4 h5 h6 h7
  have hk : (place - cm).toNat = (place - (cm + 1)).toNat + 1 := by omega
  have hs := doStep_eq (n := dnN n (cm, mm, T)) hx
  have hlx := lt_of_getElem? hx
  rw [hk] at h5 h6 h7
  simp only [doGo, hs] at h6 h7
  have hwl : (waitTold (dnN n (cm + 1, (doneM mm x).1, T)) (cm + 1) x.term (doneM mm x).2).length ≤ n.waits.length := by
    unfold waitTold; rw [List.length_map]; exact List.length_filter_le _ _
  rw [Nat.add_mul, Nat.one_mul] at h5
  refine ⟨by simp only; omega, by simp only; omega, ?_, ?_, ?_, h6, ?_⟩
  · rcases h3 with h3 | h3
    · exact .inl h3
    · omega
  · unfold doneM
    split
    · exact h4
    · exact dom_ms _ _ _
  · simp only [List.length_append]; omega
  · rw [← h7]; simp only [List.append_assoc]; rfl
end Go.Proofs.YtkkleopmambcnaaGreatDoor
set_option linter.unusedVariables false
set_option linter.unusedSimpArgs false
set_option maxRecDepth 100000
set_option maxHeartbeats 8000000
namespace Go.Proofs.YtkkleopmambcnaaGreatDoor
open Go Go.RowKit Go.Proofs.AE
variable {G : Nat → AV}
theorem send_out (n : Nd) (to : Int) (m : Msg) : ∃ o, n.send to m = { n with out := o } := by
  unfold Nd.send
  split
  · exact ⟨_, rfl⟩
  · exact ⟨n.out, rfl⟩
def outsH (n : Nd) : Nat → List Msg
  | 0 => n.out
  | k + 1 => if (k : Int) = n.me then outsH n k else (({ n with out := outsH n k } : Nd).send k (n.heapMsg k)).out
theorem outsH_nd (n : Nd) (o : List Msg) (to : Int) : ({ n with out := o } : Nd).heapTo to = { n with out := if to = n.me then o else (({ n with out := o } : Nd).send to (n.heapMsg to)).out } := by
  unfold Nd.heapTo
  by_cases h : to = n.me
  · rw [if_pos h, if_pos h]
  · rw [if_neg h, if_neg h]
    have : ({ n with out := o } : Nd).heapMsg to = n.heapMsg to := rfl
    rw [this]
    obtain ⟨o', e⟩ := send_out { n with out := o } to (n.heapMsg to)
    rw [e]
theorem outsH_len (n : Nd) (h : n.out.length ≤ 300) : ∀ k, (outsH n k).length ≤ 300
  | 0 => h
  | k + 1 => by
    unfold outsH
    split
    · exact outsH_len n h k
    · exact send_len _ _ _ (outsH_len n h k)
theorem heap_outs (n : Nd) (K : Int) (hK : n.me = K) (h : n.out.length ≤ 300) : ∃ O : Nat → List Msg, O 0 = n.out ∧ (∀ k : Nat, O (k + 1) = if (k : Int) = K then O k else (({ n with out := O k } : Nd).send k (n.heapMsg k)).out) ∧ (∀ k, (O k).length ≤ 300) ∧ n.heap = { n with out := O 3 } := by
  refine ⟨outsH n, rfl, fun k => by rw [← hK]; rfl, outsH_len n h, ?_⟩
  unfold Nd.heap
  have e0 : n = { n with out := outsH n 0 } := rfl
  have e1 := outsH_nd n (outsH n 0) 0
  have e2 := outsH_nd n (outsH n 1) 1
  have e3 := outsH_nd n (outsH n 2) 2
  rw [← e0] at e1
  rw [e1]
  exact (congrArg (fun x : Nd => x.heapTo 2) e2).trans e3
theorem heap_0 (c : Crw) (hc : c.n0.log.check = 0) (hl : c.n0.out.length ≤ 300) (hme : c.n0.me = 0) (hb : (1 ≤ c.n0.x0 ∧ c.n0.x0 ≤ 1048577) ∧ (1 ≤ c.n0.x1 ∧ c.n0.x1 ≤ 1048577) ∧ (1 ≤ c.n0.x2 ∧ c.n0.x2 ≤ 1048577)) :
    DetCall Tryz.prog G 93 7 c.hp [.one (.ptr 0 (33 * 0))] (.tup []) ({ c with n0 := c.n0.heap } : Crw).hp := by
  obtain ⟨O, hO0, hO, hOl, hO3⟩ := heap_outs c.n0 0 hme hl
  rw [hO3]
  have u1 : IntKind.i64.wrap 1 = 1 := rfl
  have u2 : IntKind.i64.wrap 2 = 2 := rfl
  have u3 : IntKind.i64.wrap 3 = 3 := rfl
  obtain ⟨lb1, lb2, lb3, lb4, lb5⟩ := last_c' _ _ _ hc
  simp only [Crw.hp, Nd.cs, List.cons_append, List.nil_append]
  refine gcallc mixed Tryz.func93 ac_crew_node_heap ?_
  repeat' (first | (with_reducible first | refine Cn (fun h => ?_) fun h => ?_ | refine And.intro ?_ ?_ | refine wR ?_ | exact wr _ _ | refine wa ?_ | apply awp_join) | (with_reducible refine CallZ.z ?_) | simp -dsimp [go_sem])
  refine awp_loop (fun k : Nat => ⟨[(0, .one (.ptr 0 (33 * 0))), (8, iV k)], G, ({ c with n0 := { c.n0 with out := O k } } : Crw).hp⟩)
    (fun k => k ≤ 3) (fun k => 3 - k) 0 (weak_auto ?_) (Nat.zero_le _) ?_
  · simp only [Crw.hp, Nd.cs, List.cons_append, List.nil_append, hO0]
    simp -dsimp [go_sem]
  · intro k hk
    rcases (by omega : k = 3 ∨ k = 0 ∨ k = 1 ∨ k = 2) with rfl | rfl | rfl | rfl
    · simp only [Crw.hp, Nd.cs, List.cons_append, List.nil_append]
      repeat' (first | (with_reducible first | refine Cn (fun h => ?_) fun h => ?_ | refine And.intro ?_ ?_ | refine wR ?_ | exact wr _ _ | refine wa ?_ | apply awp_join) | (with_reducible refine CallZ.z ?_) | simp -dsimp [go_sem])
      all_goals first | omega | trace_state
    · have hst := hO 0
      rw [if_pos (by omega)] at hst
      have hst : O (0 + 1) = O 0 := hst
      simp only [Crw.hp, Nd.cs, List.cons_append, List.nil_append, hme]
      repeat' (first | (with_reducible first | refine Cn (fun h => ?_) fun h => ?_ | refine And.intro ?_ ?_ | refine wR ?_ | exact wr _ _ | refine wa ?_ | apply awp_join) | (with_reducible refine CallZ.z ?_) | simp -dsimp [go_sem, hme, u1, u2, u3])
      all_goals first
        | omega
        | (refine Again.auto (0 + 1) ?_ (by omega) (by omega)
           simp only [hst]
           simp -dsimp [go_sem, hme]; done)
        | trace_state
    · have hs := send_0 (G := G) { c with n0 := { c.n0 with out := O 1 } } 1 (c.n0.heapMsg 1) (hOl 1)
      have hst := hO 1
      have hx := hb.2.1
      have w0 : IntKind.i64.wrap (c.n0.x1 - 1) = c.n0.x1 - 1 := IntWalk.i64_in _ (by omega)
      rw [if_neg (by omega)] at hst
      have hst : O (1 + 1) = (({ c.n0 with out := O 1 } : Nd).send 1 (c.n0.heapMsg 1)).out := hst
      obtain ⟨o', ho'⟩ : ∃ o', (({ c.n0 with out := O 1 } : Nd).send 1 (c.n0.heapMsg 1)) = { c.n0 with out := o' } := send_out _ _ _
      simp only [ho'] at hs hst
      by_cases hp : c.n0.x1 - 1 < c.n0.log.base
      · have q1 : decide (c.n0.x1 - 1 < c.n0.log.base) = true := decide_eq_true hp
        have hm : c.n0.heapMsg 1 = { zMsg with kind := 7, term := c.n0.term, sidx := c.n0.sidx, sterm := c.n0.sterm, mach := c.n0.smach } := if_pos hp
        rw [hm] at hs
        simp only [Crw.hp, Nd.cs, Msg.c, zMsg, zeroM, zeroS, List.map_nil, List.cons_append, List.nil_append, hme] at hs ⊢
        repeat' (first | (with_reducible first | refine Cn (fun h => ?_) fun h => ?_ | refine And.intro ?_ ?_ | refine wR ?_ | exact wr _ _ | refine wa ?_ | apply awp_join | refine qg hs ?_ | refine qgd hs ?_) | (with_reducible refine CallZ.z ?_) | simp -dsimp [go_sem, q1, w0, hme, u1, u2, u3])
        all_goals first
          | omega
          | (refine Again.auto (1 + 1) ?_ (by omega) (by omega)
             simp only [hst]
             simp -dsimp [go_sem, hme]; done)
          | trace_state
      · have q1 : decide (c.n0.x1 - 1 < c.n0.log.base) = false := decide_eq_false hp
        have hm : c.n0.heapMsg 1 = { zMsg with kind := 5, term := c.n0.term, last := c.n0.x1 - 1, lt := termAt c.n0.log.base c.n0.log.bt c.n0.log.items (c.n0.x1 - 1), items := (if termErr c.n0.log.base c.n0.log.items.length (c.n0.x1 - 1) = 0 then behind c.n0.log.base c.n0.log.items (c.n0.x1 - 1) 8 else []), commit := c.n0.commit } := if_neg hp
        rw [hm] at hs
        have ht := termGood_c (G := G) c.n0.log.base c.n0.log.bt c.n0.log.items (c.n0.x1 - 1) hc (by omega)
        have hbh : ∃ e, PCall Tryz.prog G 124 [.agg (logC c.n0.log.base c.n0.log.bt c.n0.log.items), iV (c.n0.x1 - 1), iV 8] (.tup [rowsV (if termErr c.n0.log.base c.n0.log.items.length (c.n0.x1 - 1) = 0 then behind c.n0.log.base c.n0.log.items (c.n0.x1 - 1) 8 else []), iV e]) := by
          by_cases he : termErr c.n0.log.base c.n0.log.items.length (c.n0.x1 - 1) = 0
          · rw [if_pos he]; exact ⟨_, behind_c _ _ _ _ _ hc (by omega) (by decide) he⟩
          · rw [if_neg he]; exact ⟨_, behindErr_c _ _ _ _ _ hc (by omega) (by decide) he⟩
        obtain ⟨e, hbh⟩ := hbh
        generalize (if termErr c.n0.log.base c.n0.log.items.length (c.n0.x1 - 1) = 0 then behind c.n0.log.base c.n0.log.items (c.n0.x1 - 1) 8 else []) = L at *
        generalize termAt c.n0.log.base c.n0.log.bt c.n0.log.items (c.n0.x1 - 1) = T at *
        generalize termErr c.n0.log.base c.n0.log.items.length (c.n0.x1 - 1) = E at *
        simp only [Crw.hp, Nd.cs, Msg.c, zMsg, zeroM, zeroS, List.map_nil, logC, List.cons_append, List.nil_append, hme] at hs ht hbh ⊢
        repeat' (first | (with_reducible first | refine Cn (fun h => ?_) fun h => ?_ | refine And.intro ?_ ?_ | refine wR ?_ | exact wr _ _ | refine wa ?_ | apply awp_join | refine qg hs ?_ | refine qgd hs ?_ | refine q ht ?_ | refine qd ht ?_ | refine qz ht ?_ | refine q hbh ?_ | refine qd hbh ?_ | refine qz hbh ?_) | (with_reducible refine CallZ.z ?_) | simp -dsimp [go_sem, q1, w0, hme, u1, u2, u3])
        all_goals first
          | omega
          | (refine Again.auto (1 + 1) ?_ (by omega) (by omega)
             simp only [hst]
             simp -dsimp [go_sem, hme]; done)
          | trace_state
    · have hs := send_0 (G := G) { c with n0 := { c.n0 with out := O 2 } } 2 (c.n0.heapMsg 2) (hOl 2)
      have hst := hO 2
      have hx := hb.2.2
      have w0 : IntKind.i64.wrap (c.n0.x2 - 1) = c.n0.x2 - 1 := IntWalk.i64_in _ (by omega)
      rw [if_neg (by omega)] at hst
      have hst : O (2 + 1) = (({ c.n0 with out := O 2 } : Nd).send 2 (c.n0.heapMsg 2)).out := hst
      obtain ⟨o', ho'⟩ : ∃ o', (({ c.n0 with out := O 2 } : Nd).send 2 (c.n0.heapMsg 2)) = { c.n0 with out := o' } := send_out _ _ _
      simp only [ho'] at hs hst
      by_cases hp : c.n0.x2 - 1 < c.n0.log.base
      · have q1 : decide (c.n0.x2 - 1 < c.n0.log.base) = true := decide_eq_true hp
        have hm : c.n0.heapMsg 2 = { zMsg with kind := 7, term := c.n0.term, sidx := c.n0.sidx, sterm := c.n0.sterm, mach := c.n0.smach } := if_pos hp
        rw [hm] at hs
        simp only [Crw.hp, Nd.cs, Msg.c, zMsg, zeroM, zeroS, List.map_nil, List.cons_append, List.nil_append, hme] at hs ⊢
        repeat' (first | (with_reducible first | refine Cn (fun h => ?_) fun h => ?_ | refine And.intro ?_ ?_ | refine wR ?_ | exact wr _ _ | refine wa ?_ | apply awp_join | refine qg hs ?_ | refine qgd hs ?_) | (with_reducible refine CallZ.z ?_) | simp -dsimp [go_sem, q1, w0, hme, u1, u2, u3])
        all_goals first
          | omega
          | (refine Again.auto (2 + 1) ?_ (by omega) (by omega)
             simp only [hst]
             simp -dsimp [go_sem, hme]; done)
          | trace_state
      · have q1 : decide (c.n0.x2 - 1 < c.n0.log.base) = false := decide_eq_false hp
        have hm : c.n0.heapMsg 2 = { zMsg with kind := 5, term := c.n0.term, last := c.n0.x2 - 1, lt := termAt c.n0.log.base c.n0.log.bt c.n0.log.items (c.n0.x2 - 1), items := (if termErr c.n0.log.base c.n0.log.items.length (c.n0.x2 - 1) = 0 then behind c.n0.log.base c.n0.log.items (c.n0.x2 - 1) 8 else []), commit := c.n0.commit } := if_neg hp
        rw [hm] at hs
        have ht := termGood_c (G := G) c.n0.log.base c.n0.log.bt c.n0.log.items (c.n0.x2 - 1) hc (by omega)
        have hbh : ∃ e, PCall Tryz.prog G 124 [.agg (logC c.n0.log.base c.n0.log.bt c.n0.log.items), iV (c.n0.x2 - 1), iV 8] (.tup [rowsV (if termErr c.n0.log.base c.n0.log.items.length (c.n0.x2 - 1) = 0 then behind c.n0.log.base c.n0.log.items (c.n0.x2 - 1) 8 else []), iV e]) := by
          by_cases he : termErr c.n0.log.base c.n0.log.items.length (c.n0.x2 - 1) = 0
          · rw [if_pos he]; exact ⟨_, behind_c _ _ _ _ _ hc (by omega) (by decide) he⟩
          · rw [if_neg he]; exact ⟨_, behindErr_c _ _ _ _ _ hc (by omega) (by decide) he⟩
        obtain ⟨e, hbh⟩ := hbh
        generalize (if termErr c.n0.log.base c.n0.log.items.length (c.n0.x2 - 1) = 0 then behind c.n0.log.base c.n0.log.items (c.n0.x2 - 1) 8 else []) = L at *
        generalize termAt c.n0.log.base c.n0.log.bt c.n0.log.items (c.n0.x2 - 1) = T at *
        generalize termErr c.n0.log.base c.n0.log.items.length (c.n0.x2 - 1) = E at *
        simp only [Crw.hp, Nd.cs, Msg.c, zMsg, zeroM, zeroS, List.map_nil, logC, List.cons_append, List.nil_append, hme] at hs ht hbh ⊢
        repeat' (first | (with_reducible first | refine Cn (fun h => ?_) fun h => ?_ | refine And.intro ?_ ?_ | refine wR ?_ | exact wr _ _ | refine wa ?_ | apply awp_join | refine qg hs ?_ | refine qgd hs ?_ | refine q ht ?_ | refine qd ht ?_ | refine qz ht ?_ | refine q hbh ?_ | refine qd hbh ?_ | refine qz hbh ?_) | (with_reducible refine CallZ.z ?_) | simp -dsimp [go_sem, q1, w0, hme, u1, u2, u3])
        all_goals first
          | omega
          | (refine Again.auto (2 + 1) ?_ (by omega) (by omega)
             simp only [hst]
             simp -dsimp [go_sem, hme]; done)
          | trace_state
end Go.Proofs.YtkkleopmambcnaaGreatDoor
set_option linter.unusedVariables false
set_option linter.unusedSimpArgs false
set_option maxRecDepth 100000
set_option maxHeartbeats 8000000
namespace Go.Proofs.YtkkleopmambcnaaGreatDoor
open Go Go.RowKit Go.Proofs.AE
variable {G : Nat → AV}
end Go.Proofs.YtkkleopmambcnaaGreatDoor
set_option linter.unusedVariables false
set_option linter.unusedSimpArgs false
set_option maxRecDepth 100000
set_option maxHeartbeats 8000000
namespace Go.Proofs.YtkkleopmambcnaaGreatDoor
open Go Go.RowKit Go.Proofs.AE
variable {G : Nat → AV}
end Go.Proofs.YtkkleopmambcnaaGreatDoor
set_option linter.unusedVariables false
set_option linter.unusedSimpArgs false
set_option maxRecDepth 100000
set_option maxHeartbeats 8000000
namespace Go.Proofs.YtkkleopmambcnaaGreatDoor
open Go Go.RowKit Go.Proofs.AE
variable {G : Nat → AV}
end Go.Proofs.YtkkleopmambcnaaGreatDoor
set_option linter.unusedVariables false
set_option linter.unusedSimpArgs false
set_option maxRecDepth 100000
set_option maxHeartbeats 8000000
namespace Go.Proofs.YtkkleopmambcnaaGreatDoor
open Go Go.RowKit Go.Proofs.AE
variable {G : Nat → AV}
end Go.Proofs.YtkkleopmambcnaaGreatDoor
set_option linter.unusedVariables false
set_option linter.unusedSimpArgs false
set_option maxRecDepth 100000
set_option maxHeartbeats 8000000
namespace Go.Proofs.YtkkleopmambcnaaGreatDoor
open Go Go.RowKit Go.Proofs.AE
variable {G : Nat → AV}
end Go.Proofs.YtkkleopmambcnaaGreatDoor
set_option linter.unusedVariables false
set_option linter.unusedSimpArgs false
set_option maxRecDepth 100000
set_option maxHeartbeats 8000000
namespace Go.Proofs.YtkkleopmambcnaaGreatDoor
open Go Go.RowKit Go.Proofs.AE
variable {G : Nat → AV}
end Go.Proofs.YtkkleopmambcnaaGreatDoor
set_option linter.unusedVariables false
set_option linter.unusedSimpArgs false
set_option maxRecDepth 100000
set_option maxHeartbeats 8000000
namespace Go.Proofs.YtkkleopmambcnaaGreatDoor
open Go Go.RowKit Go.Proofs.AE
variable {G : Nat → AV}
end Go.Proofs.YtkkleopmambcnaaGreatDoor
set_option linter.unusedVariables false
set_option linter.unusedSimpArgs false
set_option maxRecDepth 100000
set_option maxHeartbeats 8000000
namespace Go.Proofs.YtkkleopmambcnaaGreatDoor
open Go Go.RowKit Go.Proofs.AE
variable {G : Nat → AV}
theorem OkM.ms {m : Mach} (h : OkM m) : MS m := h.dom2
section
variable {g : RGh} {nd : Nat → RNd} {K : Nat} {n : Nd} {x : RNd}
theorem St.chk (h : St g nd K n x) : n.log.check = 0 := h.nr.dr.chk
theorem St.t0 (h : St g nd K n x) : 0 ≤ n.term ∧ n.term ≤ 1048576 := h.nr.dr.t0
theorem St.w1 (h : St g nd K n x) : IntKind.i64.wrap (n.term + 1) = n.term + 1 := IntWalk.i64_in _ (by have := h.t0; omega)
theorem MOk.mach {m : Msg} (h : MOk g m) (gi : GI g) (hk : m.kind = 7) : MS m.mach := by
  obtain ⟨h1, _, h3⟩ := h.ship hk
  rw [h3]
  exact (machF_ok _ fun y hy => gi.itm _ h1 y (List.mem_of_mem_take hy)).ms
end
end Go.Proofs.YtkkleopmambcnaaGreatDoor
set_option linter.unusedVariables false
set_option linter.unusedSimpArgs false
set_option maxRecDepth 100000
set_option maxHeartbeats 8000000
namespace Go.Proofs.YtkkleopmambcnaaGreatDoor
open Go Go.RowKit Go.Proofs.AE
variable {G : Nat → AV}
theorem putAway_snoc : ∀ (l a : List Msg) (m : Msg), putAway a (l ++ [m]) = if (putAway a l).length < 300 then putAway a l ++ [m] else putAway a l
  | [], a, m => rfl
  | x :: l, a, m => putAway_snoc l _ m
theorem putAway_len : ∀ (l a : List Msg), a.length ≤ 300 → (putAway a l).length ≤ 300
  | [], _, h => h
  | x :: l, a, h => putAway_len l _ (by
    split
    · simp; omega
    · exact h)
abbrev stY0 (G : Nat → AV) (c : Crw) (i : Nat) : S :=
  ⟨[(0, .one (.ptr 0 0)), (1, .one (.ptr 0 (33 * 0))), (20, .one (.ar (7 + 0))), (21, iV c.n0.out.length), (22, iV i)], G, ({ c with n0 := { c.n0 with ts := c.n0.td.length }, away := putAway c.away (c.n0.out.take i) } : Crw).hp⟩
theorem sync_0 (c : Crw) (h : TOk c.n0.td c.n0.ts) (hl : c.n0.out.length ≤ 300) (ha : c.away.length ≤ 300) : DetCall Tryz.prog G 94 1 c.hp [.one (.ptr 0 0), .one (.ptr 0 (33 * 0))] (.tup []) ({ c with n0 := { c.n0 with ts := c.n0.td.length, out := [] }, away := putAway c.away c.n0.out } : Crw).hp := by
  have hs := sync_c (G := G) c.n0.td c.n0.ts h
  have h0 : DetCall Tryz.prog G 94 1 c.hp [.one (.ptr 0 0), .one (.ptr 0 (33 * 0))] (.tup []) (nilAt ({ c with n0 := { c.n0 with ts := c.n0.td.length, out := [] }, away := putAway c.away c.n0.out } : Crw).hp (33 * 0 + 32) (6 + 0)) := by
    simp only [Crw.hp, Nd.cs, tpC, List.map_nil, List.cons_append, List.nil_append, nilAt, List.set_cons_succ, List.set_cons_zero] at hs ⊢
    refine gcallc mixed Tryz.func94 ac_crew_crew_sync ?_
    repeat' (first | (with_reducible first | refine Cn (fun h => ?_) fun h => ?_ | refine And.intro ?_ ?_ | refine wR ?_ | exact wr _ _ | refine weak_autoC ?_ | apply awp_join | refine q hs ?_ | refine qd hs ?_ | refine qz hs ?_) | (with_reducible refine CallZ.z ?_) | simp -dsimp [go_sem, clean_nil, clean_cons, clean_yes, clean_no])
    refine awp_loop (stY0 G c) (fun i => i ≤ c.n0.out.length) (fun i => c.n0.out.length - i) 0 (weak_auto ?_) (Nat.zero_le _) ?_
    · simp only [stY0, List.take_zero, putAway, Crw.hp, Nd.cs, List.cons_append, List.nil_append]
      simp -dsimp [go_sem]
    · intro i hi
      by_cases hlt : i < c.n0.out.length
      · have q1 : decide ((i : Int) < c.n0.out.length) = true := decide_eq_true (by omega)
        have q1' : decide (i < c.n0.out.length) = true := decide_eq_true hlt
        have e11 : IntKind.i64.wrap ((i : Int) + 1) = i + 1 := IntWalk.i64_in _ (by omega)
        obtain ⟨m, hm⟩ : ∃ m, c.n0.out[i]? = some m := ⟨_, List.getElem?_eq_getElem hlt⟩
        have hmr : (c.n0.out.map Msg.row)[i]? = some m.row := by rw [List.getElem?_map, hm]; rfl
        have hsn : putAway c.away (c.n0.out.take (i + 1)) = if (putAway c.away (c.n0.out.take i)).length < 300 then putAway c.away (c.n0.out.take i) ++ [m] else putAway c.away (c.n0.out.take i) := by
          rw [List.take_add_one, hm]; exact putAway_snoc _ _ _
        have hpl := putAway_len (c.n0.out.take i) c.away ha
        have hag : i + 1 ≤ c.n0.out.length := hlt
        simp only [stY0]
        generalize putAway c.away (c.n0.out.take i) = A at *
        have hul := msg_ul A
        have hal : (A.map Msg.row).length ≤ 300 := by simpa using hpl
        obtain ⟨m1, m2, m3, m4, m5, m6, m7, m8, m9, m10, m11, ⟨⟨m12, m13⟩, m14, m15⟩⟩ := m
        simp only [Msg.row] at hmr
        by_cases h3 : A.length < 300
        · have q2 : decide ((A.length : Int) < 300) = true := decide_eq_true (by omega)
          rw [if_pos h3] at hsn
          simp only [Crw.hp, Nd.cs, List.cons_append, List.nil_append]
          repeat' (first | (with_reducible first | refine Cn (fun h => ?_) fun h => ?_ | refine And.intro ?_ ?_ | refine wR ?_ | exact wr _ _ | refine weak_autoC ?_ | apply awp_join) | (exact ul_one rfl) | (with_reducible refine CallZ.z ?_) | simp -dsimp [go_sem, q1, q1', q2, e11, hmr, hul, hal, clean_nil, clean_cons, clean_yes, clean_no])
          all_goals first
            | omega
            | (refine Again.auto (i + 1) ?_ hag (by omega)
               simp only [stY0, hsn, Msg.row, Crw.hp, Nd.cs, List.map_append, List.map_cons, List.map_nil, List.cons_append, List.nil_append]
               simp -dsimp [go_sem]; done)
            | trace_state
        · have q2 : decide ((A.length : Int) < 300) = false := decide_eq_false (by omega)
          rw [if_neg h3] at hsn
          simp only [Crw.hp, Nd.cs, List.cons_append, List.nil_append]
          repeat' (first | (with_reducible first | refine Cn (fun h => ?_) fun h => ?_ | refine And.intro ?_ ?_ | refine wR ?_ | exact wr _ _ | refine weak_autoC ?_ | apply awp_join) | (exact ul_one rfl) | (with_reducible refine CallZ.z ?_) | simp -dsimp [go_sem, q1, q1', q2, e11, hmr, hul, hal, clean_nil, clean_cons, clean_yes, clean_no])
          all_goals first
            | omega
            | (refine Again.auto (i + 1) ?_ hag (by omega)
               simp only [stY0, hsn, Msg.row, Crw.hp, Nd.cs, List.map_append, List.map_cons, List.map_nil, List.cons_append, List.nil_append]
               simp -dsimp [go_sem]; done)
            | trace_state
      · have q1 : decide ((i : Int) < c.n0.out.length) = false := decide_eq_false (by omega)
        have q1' : decide (i < c.n0.out.length) = false := decide_eq_false hlt
        have : i = c.n0.out.length := by omega
        subst this
        simp only [stY0, List.take_length, Crw.hp, Nd.cs, List.cons_append, List.nil_append]
        repeat' (first | (with_reducible first | refine Cn (fun h => ?_) fun h => ?_ | refine And.intro ?_ ?_ | refine wR ?_ | exact wr _ _ | refine weak_autoC ?_ | apply awp_join) | (with_reducible refine CallZ.z ?_) | simp -dsimp [go_sem, q1, q1', clean_nil, clean_cons, clean_yes, clean_no])
        all_goals first | omega | trace_state
  refine h0.out ?_
  simp only [Crw.hp, Nd.cs, List.map_nil, List.cons_append, List.nil_append, nilAt, List.set_cons_succ, List.set_cons_zero]
  refine out_thaw 0 (33 * 0 + 32) 144 15 rfl rfl (by decide) (out_auto ?_)
  simp -dsimp [go_sem]
end Go.Proofs.YtkkleopmambcnaaGreatDoor
set_option linter.unusedVariables false
set_option linter.unusedSimpArgs false
set_option maxRecDepth 100000
set_option maxHeartbeats 8000000
namespace Go.Proofs.YtkkleopmambcnaaGreatDoor
open Go Go.RowKit Go.Proofs.AE
variable {G : Nat → AV}
theorem actWork_0 (c : Crw) (a : Act) (hk : a.kind = 3) (hc : c.n0.log.check = 0) (hl : c.n0.out.length ≤ 300) (hme : c.n0.me = 0)
    (hb : c.n0.role = 3 → (1 ≤ c.n0.x0 ∧ c.n0.x0 ≤ 1048577) ∧ (1 ≤ c.n0.x1 ∧ c.n0.x1 ≤ 1048577) ∧ (1 ≤ c.n0.x2 ∧ c.n0.x2 ≤ 1048577)) :
    DetCall Tryz.prog G 59 1 c.hp [.one (.ptr 0 0), .one (.ptr 0 (33 * 0)), .agg a.c] (.tup []) (if c.n0.role = 3 then { c with n0 := c.n0.heap } else c : Crw).hp := by
  by_cases h1 : c.n0.role = 3
  · have q1 : (c.n0.role == 3) = true := by simpa using h1
    have hh := heap_0 (G := G) c hc hl hme (hb h1)
    rw [if_pos h1]
    clear h1 hb
    simp only [Act.c, hk, Crw.hp, Nd.cs, List.cons_append, List.nil_append] at hh ⊢
    refine gcallc mixed Tryz.func59 ac_crew_crew_act ?_
    repeat' (first | (with_reducible first | refine Cn (fun h => ?_) fun h => ?_ | refine And.intro ?_ ?_ | refine wR ?_ | exact wr _ _ | refine wa ?_ | apply awp_join | refine qg hh ?_ | refine qgd hh ?_) | (with_reducible refine CallZ.z ?_) | simp -dsimp [go_sem, q1])
    all_goals first | omega | trace_state
  · have q1 : (c.n0.role == 3) = false := by simpa using h1
    rw [if_neg h1]
    clear h1 hb
    simp only [Act.c, hk, Crw.hp, Nd.cs, List.cons_append, List.nil_append]
    refine gcallc mixed Tryz.func59 ac_crew_crew_act ?_
    repeat' (first | (with_reducible first | refine Cn (fun h => ?_) fun h => ?_ | refine And.intro ?_ ?_ | refine wR ?_ | exact wr _ _ | refine wa ?_ | apply awp_join) | (with_reducible refine CallZ.z ?_) | simp -dsimp [go_sem, q1])
    all_goals first | omega | trace_state
theorem actSync_0 (c : Crw) (a : Act) (hk : a.kind = 4) (h : TOk c.n0.td c.n0.ts) (hl : c.n0.out.length ≤ 300) (ha : c.away.length ≤ 300) :
    DetCall Tryz.prog G 59 1 c.hp [.one (.ptr 0 0), .one (.ptr 0 (33 * 0)), .agg a.c] (.tup []) ({ c with n0 := { c.n0 with ts := c.n0.td.length, out := [] }, away := putAway c.away c.n0.out } : Crw).hp := by
  have hs := sync_0 (G := G) c h hl ha
  simp only [Act.c, hk, Crw.hp, Nd.cs, List.map_nil, List.cons_append, List.nil_append] at hs ⊢
  refine gcallc mixed Tryz.func59 ac_crew_crew_act ?_
  repeat' (first | (with_reducible first | refine Cn (fun h => ?_) fun h => ?_ | refine And.intro ?_ ?_ | refine wR ?_ | exact wr _ _ | refine wa ?_ | apply awp_join | refine qg hs ?_ | refine qgd hs ?_) | (with_reducible refine CallZ.z ?_) | simp -dsimp [go_sem])
  all_goals first | omega | trace_state
theorem actCrash_0 (c : Crw) (a : Act) (N : Nd) (hk : a.kind = 9) (h : DetCall Tryz.prog G 95 4 c.hp [.one (.ptr 0 0), .one (.ptr 0 (33 * 0)), iV a.pick] (.tup []) ({ c with n0 := N } : Crw).hp) :
    DetCall Tryz.prog G 59 1 c.hp [.one (.ptr 0 0), .one (.ptr 0 (33 * 0)), .agg a.c] (.tup []) ({ c with n0 := N } : Crw).hp := by
  simp only [Act.c, hk, Crw.hp, Nd.cs, List.cons_append, List.nil_append] at h ⊢
  refine gcallc mixed Tryz.func59 ac_crew_crew_act ?_
  repeat' (first | (with_reducible first | refine Cn (fun h => ?_) fun h => ?_ | refine And.intro ?_ ?_ | refine wR ?_ | exact wr _ _ | refine wa ?_ | apply awp_join | refine qg h ?_ | refine qgd h ?_) | (with_reducible refine CallZ.z ?_) | simp -dsimp [go_sem])
  all_goals first | omega | trace_state
theorem actTrim_0 (c : Crw) (a : Act) (N : Nd) (hk : a.kind = 11) (h : DetCall Tryz.prog G 96 10 c.hp [.one (.ptr 0 (33 * 0))] (.tup []) ({ c with n0 := N } : Crw).hp) :
    DetCall Tryz.prog G 59 1 c.hp [.one (.ptr 0 0), .one (.ptr 0 (33 * 0)), .agg a.c] (.tup []) ({ c with n0 := N } : Crw).hp := by
  simp only [Act.c, hk, Crw.hp, Nd.cs, List.cons_append, List.nil_append] at h ⊢
  refine gcallc mixed Tryz.func59 ac_crew_crew_act ?_
  repeat' (first | (with_reducible first | refine Cn (fun h => ?_) fun h => ?_ | refine And.intro ?_ ?_ | refine wR ?_ | exact wr _ _ | refine wa ?_ | apply awp_join | refine qg h ?_ | refine qgd h ?_) | (with_reducible refine CallZ.z ?_) | simp -dsimp [go_sem])
  all_goals first | omega | trace_state
end Go.Proofs.YtkkleopmambcnaaGreatDoor
set_option linter.unusedVariables false
set_option linter.unusedSimpArgs false
set_option maxRecDepth 100000
set_option maxHeartbeats 8000000
namespace Go.Proofs.YtkkleopmambcnaaGreatDoor
open Go Go.RowKit Go.Proofs.AE
variable {G : Nat → AV}
end Go.Proofs.YtkkleopmambcnaaGreatDoor
set_option linter.unusedVariables false
set_option linter.unusedSimpArgs false
set_option maxRecDepth 100000
set_option maxHeartbeats 8000000
namespace Go.Proofs.YtkkleopmambcnaaGreatDoor
open Go Go.RowKit Go.Proofs.AE
variable {G : Nat → AV}
theorem doStart_0 (c : Crw) (a : Act) (hk : a.kind = 10) (hn : a.node = 0) : DetCall Tryz.prog G 37 1 c.hp [.one (.ptr 0 0), .agg a.c] (.tup []) ({ c with n0 := { c.n0 with up := true } } : Crw).hp := by
  cases hz : decide (0 < (c.away.length : Int)) with
  | false =>
    have hz' : decide (0 < c.away.length) = false := by rw [decide_eq_false_iff_not] at hz ⊢; omega
    simp only [Act.c, hk, hn, Crw.hp, Nd.cs, List.cons_append, List.nil_append]
    refine gcallc mixed Tryz.func37 ac_crew_crew_do ?_
    repeat' (first | (with_reducible first | refine Cn (fun h => ?_) fun h => ?_ | refine And.intro ?_ ?_ | refine wR ?_ | exact wr _ _ | refine weak_autoC ?_ | apply awp_join) | (with_reducible refine CallZ.z ?_) | simp -dsimp [go_sem, hz, hz', clean_nil, clean_cons, clean_yes, clean_no])
    all_goals first | omega | trace_state
  | true =>
    have hz' : decide (0 < c.away.length) = true := by rw [decide_eq_true_eq] at hz ⊢; omega
    simp only [Act.c, hk, hn, Crw.hp, Nd.cs, List.cons_append, List.nil_append]
    refine gcallc mixed Tryz.func37 ac_crew_crew_do ?_
    repeat' (first | (with_reducible first | refine Cn (fun h => ?_) fun h => ?_ | refine And.intro ?_ ?_ | refine wR ?_ | exact wr _ _ | refine weak_autoC ?_ | apply awp_join) | (with_reducible refine CallZ.z ?_) | simp -dsimp [go_sem, hz, hz', clean_nil, clean_cons, clean_yes, clean_no])
    all_goals first | omega | (rw [decide_eq_true_eq] at hz'; omega) | (intro e; rw [e] at hz'; simp at hz'; done) | trace_state
theorem doDown_0 (c : Crw) (a : Act) (k1 : (a.kind == 1) = false) (k5 : (a.kind == 5) = false) (k10 : (a.kind == 10) = false) (k6 : (a.kind == 6) = false) (k7 : (a.kind == 7) = false) (k8 : (a.kind == 8) = false) (k12 : (a.kind == 12) = false) (hn : a.node = 0) (hu : c.n0.up = false) : DetCall Tryz.prog G 37 1 c.hp [.one (.ptr 0 0), .agg a.c] (.tup []) c.hp := by
  cases hz : decide (0 < (c.away.length : Int)) with
  | false =>
    have hz' : decide (0 < c.away.length) = false := by rw [decide_eq_false_iff_not] at hz ⊢; omega
    simp only [Act.c, Cal.c, hn, hu, Crw.hp, Nd.cs, List.cons_append, List.nil_append]
    refine gcallc mixed Tryz.func37 ac_crew_crew_do ?_
    repeat' (first | (with_reducible first | refine Cn (fun h => ?_) fun h => ?_ | refine And.intro ?_ ?_ | refine wR ?_ | exact wr _ _ | refine weak_autoC ?_ | apply awp_join) | (with_reducible refine CallZ.z ?_) | simp -dsimp [go_sem, k1, k5, k10, k6, k7, k8, k12, hz, hz', clean_nil, clean_cons, clean_yes, clean_no])
    all_goals first | omega | trace_state
  | true =>
    have hz' : decide (0 < c.away.length) = true := by rw [decide_eq_true_eq] at hz ⊢; omega
    simp only [Act.c, Cal.c, hn, hu, Crw.hp, Nd.cs, List.cons_append, List.nil_append]
    refine gcallc mixed Tryz.func37 ac_crew_crew_do ?_
    repeat' (first | (with_reducible first | refine Cn (fun h => ?_) fun h => ?_ | refine And.intro ?_ ?_ | refine wR ?_ | exact wr _ _ | refine weak_autoC ?_ | apply awp_join) | (with_reducible refine CallZ.z ?_) | simp -dsimp [go_sem, k1, k5, k10, k6, k7, k8, k12, hz, hz', clean_nil, clean_cons, clean_yes, clean_no])
    all_goals first | omega | (rw [decide_eq_true_eq] at hz'; omega) | (intro e; rw [e] at hz'; simp at hz'; done) | trace_state
theorem doAct_0 (c : Crw) (a : Act) (C' : Crw) (k1 : (a.kind == 1) = false) (k5 : (a.kind == 5) = false) (k10 : (a.kind == 10) = false) (k6 : (a.kind == 6) = false) (k7 : (a.kind == 7) = false) (k8 : (a.kind == 8) = false) (k12 : (a.kind == 12) = false) (hn : a.node = 0) (hu : c.n0.up = true) (h : DetCall Tryz.prog G 59 1 c.hp [.one (.ptr 0 0), .one (.ptr 0 (33 * 0)), .agg a.c] (.tup []) C'.hp) : DetCall Tryz.prog G 37 1 c.hp [.one (.ptr 0 0), .agg a.c] (.tup []) C'.hp := by
  cases hz : decide (0 < (c.away.length : Int)) with
  | false =>
    have hz' : decide (0 < c.away.length) = false := by rw [decide_eq_false_iff_not] at hz ⊢; omega
    simp only [Act.c, Cal.c, hn, hu, Crw.hp, Nd.cs, List.cons_append, List.nil_append] at h ⊢
    refine gcallc mixed Tryz.func37 ac_crew_crew_do ?_
    repeat' (first | (with_reducible first | refine Cn (fun h => ?_) fun h => ?_ | refine And.intro ?_ ?_ | refine wR ?_ | exact wr _ _ | refine weak_autoC ?_ | apply awp_join | refine qg h ?_ | refine qgd h ?_) | (with_reducible refine CallZ.z ?_) | simp -dsimp [go_sem, k1, k5, k10, k6, k7, k8, k12, hz, hz', clean_nil, clean_cons, clean_yes, clean_no])
    all_goals first | omega | trace_state
  | true =>
    have hz' : decide (0 < c.away.length) = true := by rw [decide_eq_true_eq] at hz ⊢; omega
    simp only [Act.c, Cal.c, hn, hu, Crw.hp, Nd.cs, List.cons_append, List.nil_append] at h ⊢
    refine gcallc mixed Tryz.func37 ac_crew_crew_do ?_
    repeat' (first | (with_reducible first | refine Cn (fun h => ?_) fun h => ?_ | refine And.intro ?_ ?_ | refine wR ?_ | exact wr _ _ | refine weak_autoC ?_ | apply awp_join | refine qg h ?_ | refine qgd h ?_) | (with_reducible refine CallZ.z ?_) | simp -dsimp [go_sem, k1, k5, k10, k6, k7, k8, k12, hz, hz', clean_nil, clean_cons, clean_yes, clean_no])
    all_goals first | omega | (rw [decide_eq_true_eq] at hz'; omega) | (intro e; rw [e] at hz'; simp at hz'; done) | trace_state
end Go.Proofs.YtkkleopmambcnaaGreatDoor
set_option linter.unusedVariables false
set_option linter.unusedSimpArgs false
set_option maxRecDepth 100000
set_option maxHeartbeats 8000000
namespace Go.Proofs.YtkkleopmambcnaaGreatDoor
open Go Go.RowKit Go.Proofs.AE
variable {G : Nat → AV}
end Go.Proofs.YtkkleopmambcnaaGreatDoor
set_option linter.unusedVariables false
set_option linter.unusedSimpArgs false
set_option maxRecDepth 100000
set_option maxHeartbeats 8000000
namespace Go.Proofs.YtkkleopmambcnaaGreatDoor
open Go Go.RowKit Go.Proofs.AE
variable {G : Nat → AV}
theorem doTick_0 (c : Crw) (a : Act) (hk : a.kind = 5) (hn : a.node = 0) (w1 : IntKind.i64.wrap (c.n0.clock + a.pick) = c.n0.clock + a.pick) : DetCall Tryz.prog G 37 1 c.hp [.one (.ptr 0 0), .agg a.c] (.tup []) ({ c with n0 := { c.n0 with clock := if c.n0.clock + a.pick < 1073741824 then c.n0.clock + a.pick else 1073741824 } } : Crw).hp := by
  have e0 : (if 1073741824 < c.n0.clock + a.pick then (1073741824 : Int) else c.n0.clock + a.pick) = (if c.n0.clock + a.pick < 1073741824 then c.n0.clock + a.pick else 1073741824) := by split <;> split <;> omega
  cases hz : decide (0 < (c.away.length : Int)) with
  | false =>
    have hz' : decide (0 < c.away.length) = false := by rw [decide_eq_false_iff_not] at hz ⊢; omega
    simp only [Act.c, hk, hn, Crw.hp, Nd.cs, List.cons_append, List.nil_append]
    refine gcallc mixed Tryz.func37 ac_crew_crew_do ?_
    repeat' (first | (with_reducible first | refine Cn (fun h => ?_) fun h => ?_ | refine And.intro ?_ ?_ | refine wR ?_ | exact wr _ _ | refine weak_autoC ?_ | apply awp_join) | (with_reducible refine CallZ.z ?_) | simp -dsimp [go_sem, hz, hz', w1, e0, clean_nil, clean_cons, clean_yes, clean_no])
    all_goals first | omega | trace_state
  | true =>
    have hz' : decide (0 < c.away.length) = true := by rw [decide_eq_true_eq] at hz ⊢; omega
    simp only [Act.c, hk, hn, Crw.hp, Nd.cs, List.cons_append, List.nil_append]
    refine gcallc mixed Tryz.func37 ac_crew_crew_do ?_
    repeat' (first | (with_reducible first | refine Cn (fun h => ?_) fun h => ?_ | refine And.intro ?_ ?_ | refine wR ?_ | exact wr _ _ | refine weak_autoC ?_ | apply awp_join) | (with_reducible refine CallZ.z ?_) | simp -dsimp [go_sem, hz, hz', w1, e0, clean_nil, clean_cons, clean_yes, clean_no])
    all_goals first | omega | (rw [decide_eq_true_eq] at hz'; omega) | (intro e; rw [e] at hz'; simp at hz'; done) | trace_state
end Go.Proofs.YtkkleopmambcnaaGreatDoor
set_option linter.unusedVariables false
set_option linter.unusedSimpArgs false
set_option maxRecDepth 100000
set_option maxHeartbeats 8000000
namespace Go.Proofs.YtkkleopmambcnaaGreatDoor
open Go Go.RowKit Go.Proofs.AE
variable {G : Nat → AV}
abbrev stF (G : Nat → AV) (l : List Msg) (C : Nat → Crw) (i : Nat) : S :=
  ⟨[(0, .one (.ptr 0 0)), (131, .one (.ar 10)), (132, iV l.length), (133, iV i)], G, (C i).hp ++ [some (.arr 144 15 (l.map Msg.row))]⟩
theorem doFlow (c : Crw) (a : Act) (C : Nat → Crw) (hk : a.kind = 12) (hn : a.node = 0) (hl : c.away.length ≤ 300) (h0 : C 0 = { c with away := [] })
    (h : ∀ i m, c.away[i]? = some m → DetCall Tryz.prog G 58 1 (C i).hp [.one (.ptr 0 0), .agg m.c] (.tup []) (C (i + 1)).hp) : DetCall Tryz.prog G 37 1 c.hp [.one (.ptr 0 0), .agg a.c] (.tup []) (C c.away.length).hp := by
  obtain ⟨l, hla⟩ : ∃ l, c.away = l := ⟨_, rfl⟩
  rw [hla] at h hl ⊢
  have two : ∀ b : Bool, decide (0 < (l.length : Int)) = b → DetCall Tryz.prog G 37 1 c.hp [.one (.ptr 0 0), .agg a.c] (.tup []) (C l.length).hp := by
    intro b hz
    have hz' : decide (0 < l.length) = b := by rw [← hz, Bool.eq_iff_iff]; simp
    have hlr : (l.map Msg.row).length = l.length := by simp
    simp only [Act.c, hk, hn, hla, Crw.hp, Nd.cs, List.cons_append, List.nil_append]
    cases b with
    | false =>
      have hl0 : l = [] := by rw [decide_eq_false_iff_not] at hz'; exact List.eq_nil_of_length_eq_zero (by omega)
      subst hl0
      simp only [List.map_nil, List.length_nil, h0] at hlr ⊢
      refine gcallc mixed Tryz.func37 ac_crew_crew_do ?_
      repeat' (first | (with_reducible first | refine Cn (fun h => ?_) fun h => ?_ | refine And.intro ?_ ?_ | refine wR ?_ | exact wr _ _ | refine weak_autoC ?_ | apply awp_join) | (with_reducible refine CallZ.z ?_) | simp -dsimp [go_sem, hz, hz', clean_nil, clean_cons, clean_yes, clean_no])
      refine awp_loop (fun _ : Nat => ⟨[(132, iV 0), (133, iV 0)], G, [some (.box 113 (c.n0.cs 4 7 ++ c.n1.cs 5 8 ++ c.n2.cs 6 9 ++ [.ar 1, .ar 2, .ar 3])), some (.arr 144 15 []), some (.arr 77 12 (c.told.map Tol.row)), some (.arr 61 2 (c.led.map leadR)), some (.arr 176 9 (c.n0.waits.map Wt.row)), some (.arr 176 9 (c.n1.waits.map Wt.row)), some (.arr 176 9 (c.n2.waits.map Wt.row)), some (.arr 144 15 (c.n0.out.map Msg.row)), some (.arr 144 15 (c.n1.out.map Msg.row)), some (.arr 144 15 (c.n2.out.map Msg.row))]⟩) (fun _ => True) (fun _ => 0) 0 (Weak.trans (weak_thaw 0 99 144 15 rfl rfl (by decide)) (weak_auto ?_)) trivial ?_
      · simp only [Nd.cs, List.cons_append, List.nil_append]
        simp -dsimp [go_sem]
      · intro i _
        simp only [Nd.cs, List.cons_append, List.nil_append]
        repeat' (first | (with_reducible first | refine Cn (fun h => ?_) fun h => ?_ | refine And.intro ?_ ?_ | refine wR ?_ | exact wr _ _ | refine weak_autoC ?_ | apply awp_join) | (with_reducible refine CallZ.z ?_) | simp -dsimp [go_sem, clean_nil, clean_cons, clean_yes, clean_no])
        all_goals first | omega | trace_state
    | true =>
      have hne : l ≠ [] := by rintro e; rw [e] at hz'; simp at hz'
      have hzn : (l.length : Int) ≠ 0 := by rw [decide_eq_true_eq] at hz; omega
      obtain ⟨pk, hpk⟩ : ∃ pk, a.pick.tmod (l.length : Int) = pk := ⟨_, rfl⟩
      refine gcallc mixed Tryz.func37 ac_crew_crew_do ?_
      repeat' (first | (with_reducible first | refine Cn (fun h => ?_) fun h => ?_ | refine And.intro ?_ ?_ | refine wR ?_ | exact wr _ _ | refine weak_autoC ?_ | apply awp_join) | (with_reducible refine CallZ.z ?_) | simp -dsimp [go_sem, hz, hz', hlr, hne, hzn, clean_nil, clean_cons, clean_yes, clean_no])
      refine awp_loop (stF G l C) (fun i => i ≤ l.length) (fun i => l.length - i) 0 (Weak.trans (weak_thaw 0 99 144 15 rfl rfl (by decide)) (weak_auto ?_)) (Nat.zero_le _) ?_
      · simp only [stF, h0, Crw.hp, Nd.cs, List.map_nil, List.cons_append, List.nil_append]
        simp -dsimp [go_sem, hlr]
      · intro i hi
        by_cases hlt : i < l.length
        · have q1 : decide ((i : Int) < l.length) = true := decide_eq_true (by omega)
          have q1' : decide (i < l.length) = true := decide_eq_true hlt
          have e11 : IntKind.i64.wrap ((i : Int) + 1) = i + 1 := IntWalk.i64_in _ (by omega)
          obtain ⟨m, hm⟩ : ∃ m, l[i]? = some m := ⟨_, List.getElem?_eq_getElem hlt⟩
          have hmr : (l.map Msg.row)[i]? = some m.row := by rw [List.getElem?_map, hm]; rfl
          have hc := h i m hm
          have hag : i + 1 ≤ l.length := hlt
          obtain ⟨m1, m2, m3, m4, m5, m6, m7, m8, m9, m10, m11, ⟨⟨m12, m13⟩, m14, m15⟩⟩ := m
          simp only [Msg.row] at hmr
          simp only [stF]
          generalize hC1 : C (i + 1) = d1 at *
          generalize C i = d0 at *
          simp only [Msg.c, Crw.hp, Nd.cs, List.cons_append, List.nil_append] at hc ⊢
          obtain ⟨R, hR⟩ : ∃ R, l.map Msg.row = R := ⟨_, rfl⟩
          rw [hR] at hmr hlr ⊢
          repeat' (first | (with_reducible first | refine Cn (fun h => ?_) fun h => ?_ | refine And.intro ?_ ?_ | refine wR ?_ | exact wr _ _ | refine weak_autoC ?_ | apply awp_join | refine qg hc ?_ | refine qgd hc ?_) | (with_reducible refine CallZ.z ?_) | simp -dsimp [go_sem, q1, q1', e11, hmr, hlr, clean_nil, clean_cons, clean_yes, clean_no])
          all_goals first
            | assumption
            | (refine Again.auto (i + 1) ?_ hag (by omega)
               simp only [stF, hC1, hR, Crw.hp, Nd.cs, List.cons_append, List.nil_append]
               simp -dsimp [go_sem]; done)
            | trace_state
        · have q1 : decide ((i : Int) < l.length) = false := decide_eq_false (by omega)
          have q1' : decide (i < l.length) = false := decide_eq_false hlt
          have : i = l.length := by omega
          subst this
          simp only [stF]
          generalize C l.length = d0 at *
          simp only [Crw.hp, Nd.cs, List.cons_append, List.nil_append]
          repeat' (first | (with_reducible first | refine Cn (fun h => ?_) fun h => ?_ | refine And.intro ?_ ?_ | refine wR ?_ | exact wr _ _ | refine weak_autoC ?_ | apply awp_join) | (with_reducible refine CallZ.z ?_) | simp -dsimp [go_sem, q1, q1', clean_nil, clean_cons, clean_yes, clean_no])
          all_goals first | omega | trace_state
  exact two _ rfl
end Go.Proofs.YtkkleopmambcnaaGreatDoor
set_option linter.unusedVariables false
set_option linter.unusedSimpArgs false
set_option maxRecDepth 100000
set_option maxHeartbeats 8000000
namespace Go.Proofs.YtkkleopmambcnaaGreatDoor
open Go Go.RowKit Go.Proofs.AE
variable {G : Nat → AV}
section
variable {g : RGh} {nd : Nat → RNd} {K : Nat} {n : Nd} {x : RNd}
end
end Go.Proofs.YtkkleopmambcnaaGreatDoor
set_option linter.unusedVariables false
set_option linter.unusedSimpArgs false
set_option maxRecDepth 100000
set_option maxHeartbeats 8000000
namespace Go.Proofs.YtkkleopmambcnaaGreatDoor
open Go Go.RowKit Go.Proofs.AE
variable {G : Nat → AV}
def SortOk (G : Nat → AV) (l : List (Int × Int)) (l' : List (List V)) : Prop := DetCall Tryz.prog G 39 1 [some (.arr 61 2 (l.map leadR))] [.one (.ar 0), .fn 40 [] []] (.tup []) [some (.arr 61 2 l')]
theorem sort_nil : SortOk G [] [] := by
  unfold SortOk
  have h1 : DetCall Tryz.prog G 60 1 [some (.arr 61 2 [])] [.one (.ar 0), iV 0, .fn 40 [] []] (.tup []) [some (.arr 61 2 [])] := by
    have h2 : DetCall Tryz.prog G 97 1 [some (.arr 61 2 [])] [.one (.ar 0), iV 0, iV 0, .fn 40 [] []] (.tup []) [some (.arr 61 2 [])] := by
      have w1 : IntKind.i64.wrap 1 = 1 := IntWalk.i64_in _ (by omega)
      refine gcallc mixed Tryz.func97 ac_slices_insertionSortCmpFunc_api_Lead ?_
      repeat' (first | (with_reducible first | refine Cn (fun h => ?_) fun h => ?_ | refine And.intro ?_ ?_ | refine wR ?_ | exact wr _ _ | refine weak_autoC ?_ | apply awp_join) | (with_reducible refine CallZ.z ?_) | simp -dsimp [go_sem, w1, clean_nil, clean_cons, clean_yes, clean_no])
      refine awp_loop (fun _ : Nat => ⟨[(2, iV 0), (8, iV 1)], G, [some (.arr 61 2 [])]⟩) (fun _ => True) (fun _ => 0) 0 (weak_auto ?_) trivial ?_
      · simp -dsimp [go_sem]
      · intro i _
        repeat' (first | (with_reducible first | refine Cn (fun h => ?_) fun h => ?_ | refine And.intro ?_ ?_ | refine wR ?_ | exact wr _ _ | refine weak_autoC ?_ | apply awp_join) | (with_reducible refine CallZ.z ?_) | simp -dsimp [go_sem, clean_nil, clean_cons, clean_yes, clean_no])
        all_goals trace_state
    refine gcallc mixed Tryz.func60 ac_slices_stableCmpFunc_api_Lead ?_
    repeat' (first | (with_reducible first | refine Cn (fun h => ?_) fun h => ?_ | refine And.intro ?_ ?_ | refine wR ?_ | exact wr _ _ | refine weak_autoC ?_ | apply awp_join) | (with_reducible refine CallZ.z ?_) | simp -dsimp [go_sem, clean_nil, clean_cons, clean_yes, clean_no])
    refine awp_loop (fun _ : Nat => ⟨[(0, .one (.ar 0)), (1, iV 0), (2, .fn 40 [] []), (6, iV 20), (7, iV 0), (8, iV 20)], G, [some (.arr 61 2 [])]⟩) (fun _ => True) (fun _ => 0) 0 (weak_auto ?_) trivial ?_
    · simp -dsimp [go_sem]
    · intro i _
      repeat' (first | (with_reducible first | refine Cn (fun h => ?_) fun h => ?_ | refine And.intro ?_ ?_ | refine wR ?_ | exact wr _ _ | refine weak_autoC ?_ | apply awp_join | refine qg h2 ?_ | refine qgd h2 ?_) | (with_reducible refine CallZ.z ?_) | simp -dsimp [go_sem, clean_nil, clean_cons, clean_yes, clean_no])
      refine awp_loop (fun _ : Nat => ⟨[(1, iV 0), (6, iV 20)], G, [some (.arr 61 2 [])]⟩) (fun _ => True) (fun _ => 0) 0 (weak_auto ?_) trivial ?_
      · simp -dsimp [go_sem]
      · intro i _
        repeat' (first | (with_reducible first | refine Cn (fun h => ?_) fun h => ?_ | refine And.intro ?_ ?_ | refine wR ?_ | exact wr _ _ | refine weak_autoC ?_ | apply awp_join) | (with_reducible refine CallZ.z ?_) | simp -dsimp [go_sem, clean_nil, clean_cons, clean_yes, clean_no])
        all_goals trace_state
  simp only [List.map_nil]
  refine gcallc mixed Tryz.func39 ac_slices_SortStableFunc_api_Lead ?_
  repeat' (first | (with_reducible first | refine Cn (fun h => ?_) fun h => ?_ | refine And.intro ?_ ?_ | refine wR ?_ | exact wr _ _ | refine wa ?_ | apply awp_join | refine qg h1 ?_ | refine qgd h1 ?_) | (with_reducible refine CallZ.z ?_) | simp -dsimp [go_sem])
  all_goals trace_state
end Go.Proofs.YtkkleopmambcnaaGreatDoor
set_option linter.unusedVariables false
set_option linter.unusedSimpArgs false
set_option maxRecDepth 100000
set_option maxHeartbeats 8000000
namespace Go.Proofs.YtkkleopmambcnaaGreatDoor
open Go Go.RowKit Go.Proofs.AE
abbrev intRows (l : List Int) : List (List V) := l.map fun n => [V.lit (.int .i64 n)]
theorem ints_of : ∀ (rows : List (List V)), (∀ r ∈ rows, WT Tryz.prog 1 3 r) → ∃ ns : List Int, rows = intRows ns ∧ ∀ n ∈ ns, i64 n
  | [], _ => ⟨[], rfl, fun d h => by cases h⟩
  | r :: rows, h => by
    obtain ⟨ns, h1, h2⟩ := ints_of rows fun r hr => h r (List.mem_cons_of_mem _ hr)
    have hr := h r (List.mem_cons_self ..)
    simp [WT, ti3] at hr
    obtain ⟨x, rfl, wx⟩ := hr
    refine ⟨x :: ns, by rw [h1]; rfl, fun y hy => ?_⟩
    rcases List.mem_cons.1 hy with rfl | hy
    · exact wf_i64 wx
    · exact h2 y hy
end Go.Proofs.YtkkleopmambcnaaGreatDoor
set_option linter.unusedVariables false
set_option linter.unusedSimpArgs false
set_option maxRecDepth 100000
set_option maxHeartbeats 8000000
namespace Go.Proofs.YtkkleopmambcnaaGreatDoor
open Go Go.RowKit Go.Proofs.AE
abbrev ac_rostrumtop_TopStart := CC.of Tryz.f4 []
variable {G : Nat → AV}
theorem ran_c {x : List (List V)} {a b c : List V} {t l : List (List V)} {n : Int} (h : PCall Tryz.prog G 17 [.one (.v (.sl x))] (.tup [.agg [.v (.sl [a, b, c]), .v (.sl t), .v (.sl l), iC n], iV 0])) : PCall Tryz.prog G 18 [.one (.v (.sl x))] (.tup [.agg [.v (.sl [a, b, c]), .v (.sl t), .v (.sl l), iC n], bV true]) := by
  refine pcallc mixed Tryz.func18 ac_rostrumtop_ran ?_
  repeat' (first | (with_reducible first | refine Cn (fun h => ?_) fun h => ?_ | refine And.intro ?_ ?_ | refine wR ?_ | exact wr _ _ | refine wa ?_ | apply awp_join | refine q h ?_ | refine qd h ?_ | refine qz h ?_) | (with_reducible refine CallZ.z ?_) | simp -dsimp [go_sem])
  all_goals trace_state
def beS (b : Bool) : Crw := { begC with n0 := { begN 0 with up := b } }
def startA (k : Int) : Act := ⟨k, 0, 0, zCal⟩
theorem start_do (b : Bool) (k : Int) (hk : k = 10 ∨ k = 3 ∨ k = 4 ∨ k = 12 ∨ k = 11 ∨ k = 9 ∨ k = 5) : ∃ b', (beS b).do (startA k) = beS b' ∧ (k = 10 → b' = true) ∧ DetCall Tryz.prog G 37 1 (beS b).hp [.one (.ptr 0 0), .agg (startA k).c] (.tup []) (beS b').hp := by
  have tok : TOk (beS b).n0.td (beS b).n0.ts := ⟨Int.le_refl _, Int.le_refl _, by show ([] : List UInt8).length ≤ _; simp⟩
  have chk : (beS b).n0.log.check = 0 := newD_ok.log
  have act : ∀ {C' : Crw}, k ≠ 10 → k ≠ 12 → k ≠ 5 → (b = true → (beS b).do (startA k) = C' ∧ DetCall Tryz.prog G 59 1 (beS b).hp [.one (.ptr 0 0), .one (.ptr 0 (33 * 0)), .agg (startA k).c] (.tup []) C'.hp) → (∃ b', C' = beS b') → ∃ b', (beS b).do (startA k) = beS b' ∧ (k = 10 → b' = true) ∧ DetCall Tryz.prog G 37 1 (beS b).hp [.one (.ptr 0 0), .agg (startA k).c] (.tup []) (beS b').hp := by
    intro C' h10 h12 h5 h ⟨b', hb'⟩
    have k1 : ((startA k).kind == 1) = false := beq_eq_false_iff_ne.2 (by show k ≠ 1; omega)
    have k5 : ((startA k).kind == 5) = false := beq_eq_false_iff_ne.2 (by show k ≠ 5; omega)
    have k10 : ((startA k).kind == 10) = false := beq_eq_false_iff_ne.2 (by show k ≠ 10; omega)
    have k6 : ((startA k).kind == 6) = false := beq_eq_false_iff_ne.2 (by show k ≠ 6; omega)
    have k7 : ((startA k).kind == 7) = false := beq_eq_false_iff_ne.2 (by show k ≠ 7; omega)
    have k8 : ((startA k).kind == 8) = false := beq_eq_false_iff_ne.2 (by show k ≠ 8; omega)
    have k12 : ((startA k).kind == 12) = false := beq_eq_false_iff_ne.2 (by show k ≠ 12; omega)
    cases b with
    | false =>
      refine ⟨false, ?_, fun e => absurd e h10, doDown_0 _ _ k1 k5 k10 k6 k7 k8 k12 rfl rfl⟩
      unfold Crw.do
      simp only
      rw [if_neg (by show ¬ k = 1; omega), if_neg (by show ¬ k = 5; omega), if_neg (by show ¬ k = 10; omega), if_neg (by show ¬ (k = 6 ∨ k = 7); omega), if_neg (by show ¬ k = 8; omega), if_neg (by show ¬ k = 12; omega)]
      rfl
    | true =>
      obtain ⟨h1, h2⟩ := h rfl
      subst hb'
      exact ⟨b', h1, fun e => absurd e h10, doAct_0 _ _ _ k1 k5 k10 k6 k7 k8 k12 rfl rfl h2⟩
  rcases hk with rfl | rfl | rfl | rfl | rfl | rfl | rfl
  · exact ⟨true, rfl, fun _ => rfl, doStart_0 (beS b) (startA 10) rfl rfl⟩
  · refine act (C' := beS true) (by omega) (by omega) (by omega) (fun e => ?_) ⟨true, rfl⟩
    subst e
    have h := actWork_0 (G := G) (beS true) (startA 3) rfl chk (Nat.zero_le _) rfl (fun e => by simp [beS, begN, freshN] at e)
    rw [if_neg (by show ¬ (0 : Int) = 3; omega)] at h
    exact ⟨rfl, h⟩
  · refine act (C' := beS true) (by omega) (by omega) (by omega) (fun e => ?_) ⟨true, rfl⟩
    subst e
    exact ⟨rfl, actSync_0 (G := G) (beS true) (startA 4) rfl tok (Nat.zero_le _) (Nat.zero_le _)⟩
  · exact ⟨b, rfl, fun e => by omega, doFlow (G := G) (beS b) (startA 12) (fun _ => beS b) rfl rfl (Nat.zero_le _) rfl (fun i m h => by simp [beS, begC] at h)⟩
  · refine act (C' := beS true) (by omega) (by omega) (by omega) (fun e => ?_) ⟨true, rfl⟩
    subst e
    exact ⟨rfl, actTrim_0 (G := G) (beS true) (startA 11) _ rfl (trim_0 (beS true) tok chk newM_ok.dom2 ⟨Int.le_refl _, Int.le_refl _⟩)⟩
  · refine act (C' := beS false) (by omega) (by omega) (by omega) (fun e => ?_) ⟨false, rfl⟩
    subst e
    exact ⟨rfl, actCrash_0 (G := G) (beS true) (startA 9) _ rfl (crash_0 (beS true) 0 tok (Int.le_refl _) ⟨Int.le_refl _, Int.le_refl _, Nat.zero_le _⟩ (fun r hr => by cases hr) (by show ((0 : Nat) : Int) ≤ _; omega) (Nat.le_refl _))⟩
  · refine ⟨b, rfl, fun e => by omega, doTick_0 (G := G) (beS b) (startA 5) rfl rfl (show IntKind.i64.wrap (0 + 0) = 0 + 0 by decide)⟩
def kindO (p : Int) : Int := if p = 0 then 10 else if p = 1 then 3 else if p = 2 then 4 else if p = 3 then 12 else if p = 4 then 11 else if p = 5 then 9 else 5
def startL (l : List Int) (i : Nat) : List Act := (l.take i).map fun n => startA (kindO (pk n 7))
theorem startL_zero (l : List Int) : startL l 0 = [] := rfl
theorem startL_succ {l : List Int} {i : Nat} {n : Int} (h : l[i]? = some n) : startL l (i + 1) = startL l i ++ [startA (kindO (pk n 7))] := by unfold startL; rw [List.take_add_one, h]; simp
theorem startL_len (l : List Int) (i : Nat) : (startL l i).length = min i l.length := by unfold startL; simp
theorem kindO_of (p : Int) : kindO p = 10 ∨ kindO p = 3 ∨ kindO p = 4 ∨ kindO p = 12 ∨ kindO p = 11 ∨ kindO p = 9 ∨ kindO p = 5 := by
  unfold kindO
  repeat' split
  all_goals omega
def Quiet (l : List Act) : Prop := ∀ a ∈ l, ∃ k, a = startA k ∧ (k = 10 ∨ k = 3 ∨ k = 4 ∨ k = 12 ∨ k = 11 ∨ k = 9 ∨ k = 5)
theorem startL_quiet (l : List Int) (i : Nat) : Quiet (startL l i) := fun a ha => by
  obtain ⟨n, _, rfl⟩ := List.mem_map.1 ha
  exact ⟨_, rfl, kindO_of _⟩
theorem quiet_run : ∀ {l : List Act}, Quiet l → ∀ b, ∃ b', l.foldl Crw.do (beS b) = beS b'
  | [], _, b => ⟨b, rfl⟩
  | a :: l, h, b => by
    obtain ⟨k, rfl, hk⟩ := h a (List.mem_cons_self ..)
    obtain ⟨b1, h1, _⟩ := start_do (G := fun _ => .any) b k hk
    obtain ⟨b2, h2⟩ := quiet_run (l := l) (fun x hx => h x (List.mem_cons_of_mem _ hx)) b1
    exact ⟨b2, by rw [List.foldl_cons, h1]; exact h2⟩
theorem quiet_c (l : List Act) (hl : l.length ≤ 3000) (h : Quiet l) {b : Bool} (hb : runC l = beS b) : PCall Tryz.prog G 17 [.one (.v (.sl (l.map Act.row)))] (.tup [.agg [.v (.sl [viewR (beS b).n0, viewR (beS b).n1, viewR (beS b).n2]), .v (.sl []), .v (.sl []), iC 0], iV 0]) := by
  have hall : runC (l.take l.length) = beS b := by rw [List.take_length]; exact hb
  have hg : ∀ a ∈ l, a.check = 0 := fun a ha => by
    obtain ⟨k, rfl, hk⟩ := h a ha
    rcases hk with rfl | rfl | rfl | rfl | rfl | rfl | rfl <;> decide
  have hcp : PCall Tryz.prog G 42 [.agg newM.c] (.agg newM.c) := by
    obtain ⟨f1, f2, f3⟩ := newM_ok.dom
    exact copyOf_c _ f1 f2 f3
  have hx := runA (G := G) l hl hg (fun i => runC (l.take i)) rfl [] (by rw [hall]; exact sort_nil) (by rw [hall]; intro t ht; simp [beS, begC] at ht) (by rw [hall]; exact Nat.zero_le _) (fun K hK => by
    rw [hall]
    have h1 : K = 0 ∨ K = 1 ∨ K = 2 := by omega
    rcases h1 with rfl | rfl | rfl <;> exact Nat.zero_le _) (fun K hK => by
    rw [hall]
    have h1 : K = 0 ∨ K = 1 ∨ K = 2 := by omega
    rcases h1 with rfl | rfl | rfl <;> exact hcp) (fun i a hi => by
    rw [runC_take hi]
    obtain ⟨k, rfl, hk⟩ := h a (List.mem_of_getElem? hi)
    obtain ⟨b1, hb1⟩ := quiet_run (l := l.take i) (fun x hx => h x (List.mem_of_mem_take hx)) true
    have hb2 : runC (l.take i) = beS b1 := hb1
    rw [hb2]
    obtain ⟨b2, h1, _, h2⟩ := start_do (G := G) b1 k hk
    rw [h1]; exact h2)
  rw [hall] at hx
  exact hx
theorem topStart_c (hG : Noth G) (l : List Int) (hl : (l.length : Int) ≤ 9223372036854775807) (hd : ∀ n ∈ l, i64 n) : PCall Tryz.prog G 4 [.one (.v (.sl (intRows l)))] (bV true) := by
  obtain ⟨rows0, hrows0⟩ : ∃ rows, intRows l = rows := ⟨_, rfl⟩
  have hlen : rows0.length = l.length := by rw [← hrows0]; simp
  have hat : ∀ (i : Nat) n, l[i]? = some n → rows0[i]? = some [iL n] := fun i n h => by rw [← hrows0]; simp [h]
  rw [hrows0]
  refine pcallc mixed Tryz.func4 ac_rostrumtop_TopStart ?_
  repeat' (first | (with_reducible first | refine Cn (fun h => ?_) fun h => ?_ | refine And.intro ?_ ?_ | refine wR ?_ | exact wr _ _ | refine wa ?_ | apply awp_join) | (with_reducible refine CallZ.z ?_) | simp -dsimp [go_sem])
  refine awp_loop (fun i : Nat => ⟨[(0, .one (.v (.sl rows0))), (3, .one (.ar 0)), (4, iV i)], G, [some (.arr 31 10 ((startL l i).map Act.row))]⟩) (fun i => i ≤ l.length ∧ i ≤ 20) (fun i => 20 - i) 0 (Weak.trans (weak_nil 3 31 10 ?_ (by omega)) (weak_auto ?_)) ⟨Nat.zero_le _, by omega⟩ ?_
  · simp -dsimp [go_sem]
  · simp -dsimp [go_sem, startL_zero]
  · rintro i ⟨hi, hi20⟩
    by_cases hc : i < l.length ∧ i < 20
    · obtain ⟨n, hn⟩ : ∃ n, l[i]? = some n := ⟨_, List.getElem?_eq_getElem hc.1⟩
      have hr := hat i n hn
      have q1 : decide ((i : Int) < (l.length : Int)) = true := decide_eq_true (by omega)
      have q1' : decide (i < l.length) = true := decide_eq_true hc.1
      have q2 : decide ((i : Int) < 20) = true := decide_eq_true (by omega)
      have e4 : IntKind.i64.wrap ((i : Int) + 1) = (i : Int) + 1 := IntWalk.i64_in _ (by omega)
      have hp := picked'_c (G := G) n 7 (hd n (List.mem_of_getElem? hn)) (by omega)
      have hpr := pk_range (n := n) (m := 7) (by omega)
      have hsu := startL_succ hn
      have hul := act_ul (startL l i)
      have hal : ((startL l i).map Act.row).length = i := by rw [List.length_map, startL_len]; omega
      have hag : i + 1 ≤ l.length ∧ i + 1 ≤ 20 := by omega
      have hpc : pk n 7 = 0 ∨ pk n 7 = 1 ∨ pk n 7 = 2 ∨ pk n 7 = 3 ∨ pk n 7 = 4 ∨ pk n 7 = 5 ∨ pk n 7 = 6 := by omega
      have hsu2 : (startL l (i + 1)).map Act.row = (startL l i).map Act.row ++ [(startA (kindO (pk n 7))).row] := by rw [hsu, List.map_append]; rfl
      obtain ⟨R, hR⟩ : ∃ R, (startL l i).map Act.row = R := ⟨_, rfl⟩
      rw [hR] at hul hal hsu2 ⊢
      clear hsu hpr
      rcases hpc with e | e | e | e | e | e | e
      all_goals
        rw [e] at hp hsu2
        have hk : kindO (pk n 7) = kindO (pk n 7) := rfl
        simp only [kindO, startA, zCal, Act.row, if_true, if_false, Int.reduceEq] at hsu2
        repeat' (first | (with_reducible first | refine Cn (fun h => ?_) fun h => ?_ | refine And.intro ?_ ?_ | refine wR ?_ | exact wr _ _ | refine wa ?_ | apply awp_join | refine q hp ?_ | refine qd hp ?_ | refine qz hp ?_) | (exact ul_one rfl) | (with_reducible refine CallZ.z ?_) | simp -dsimp [go_sem, hr, q1, q1', q2, e4, hul, hal, hlen])
        all_goals first
          | omega
          | (simp [UL]; done)
          | (refine Again.auto (i + 1) ?_ hag (by omega)
             simp -dsimp [go_sem, hsu2]; done)
          | trace_state
    · have he : startL l i = startL l 20 := by
        have hor : i = l.length ∨ i = 20 := by omega
        rcases hor with e | e
        · unfold startL; rw [List.take_of_length_le (by omega), List.take_of_length_le (by omega)]
        · rw [e]
      have hq := startL_quiet l 20
      have hlen20 := startL_len l 20
      rw [he]
      obtain ⟨A, hA⟩ : ∃ A, startL l 20 = A := ⟨_, rfl⟩
      rw [hA] at hq hlen20 ⊢
      have hAl : A.length ≤ 20 := by omega
      have hq2 : Quiet (A ++ [startA 10]) := fun a ha => by
        rcases List.mem_append.1 ha with ha | ha
        · exact hq a ha
        · rw [List.mem_singleton] at ha; exact ⟨10, ha, .inl rfl⟩
      obtain ⟨b1, hb1⟩ := quiet_run hq true
      have hb1' : runC A = beS b1 := hb1
      obtain ⟨b2, hd1, hb2, _⟩ := start_do (G := G) b1 10 (.inl rfl)
      have hrun : runC (A ++ [startA 10]) = beS true := by rw [runC_snoc, hb1', hd1, hb2 rfl]
      have hru := quiet_c (G := G) (A ++ [startA 10]) (by simp; omega) hq2 hrun
      have hran := ran_c hru
      have hwi := with_c (G := G) A [startA 10] (by omega) (by simp)
      have u1 := act_ul A
      have hv0 : viewR (beS true).n0 = [.lit (.bool true), iL 0, .lit (.bool false), iL 0, iL 0, iL 0, .sl [], iL 0, .sl [], iL 1, .sl []] := rfl
      have hv1 : viewR (beS true).n1 = [.lit (.bool true), iL 0, .lit (.bool false), iL 0, iL 0, iL 0, .sl [], iL 0, .sl [], iL 1, .sl []] := rfl
      have hv2 : viewR (beS true).n2 = [.lit (.bool true), iL 0, .lit (.bool false), iL 0, iL 0, iL 0, .sl [], iL 0, .sl [], iL 1, .sl []] := rfl
      rw [hv0, hv1, hv2] at hran
      clear hru hb1 hb1' hd1 hb2 hrun hq hq2 hA hat hd
      obtain ⟨X, hX⟩ : ∃ X, (A ++ [startA 10]).map Act.row = X := ⟨_, rfl⟩
      rw [hX] at hran hwi
      simp only [startA, zCal, List.map_cons, List.map_nil, Act.row] at hwi
      clear hX
      have hAr : (A.map Act.row).length = A.length := by simp
      generalize A.map Act.row = R at *
      have wr0 : IntKind.i64.wrap 0 = 0 := IntWalk.i64_in _ (by omega)
      by_cases hil : i < l.length
      · have q1 : decide ((i : Int) < (l.length : Int)) = true := decide_eq_true (by omega)
        have q1' : decide (i < l.length) = true := decide_eq_true hil
        have q2 : decide ((i : Int) < 20) = false := decide_eq_false (by omega)
        repeat' (first | (with_reducible first | refine Cn (fun h => ?_) fun h => ?_ | refine And.intro ?_ ?_ | refine wR ?_ | exact wr _ _ | refine weak_autoC ?_ | apply awp_join | refine q hwi ?_ | refine qd hwi ?_ | refine qz hwi ?_ | refine q hran ?_ | refine qd hran ?_ | refine qz hran ?_) | (exact ul_one rfl) | (with_reducible refine CallZ.z ?_) | simp -dsimp [go_sem, wr0, q1, q1', q2, hlen, clean_nil, clean_cons, clean_yes, clean_no])
        all_goals first
          | omega
          | (refine awp_loop (fun i : Nat => ⟨[(5, .one (.ptr 0 0)), (7, iV i)], G, [some (.box 36 [.v (.sl [[.lit (.bool true), iL 0, .lit (.bool false), iL 0, iL 0, iL 0, .sl [], iL 0, .sl [], iL 1, .sl []], [.lit (.bool true), iL 0, .lit (.bool false), iL 0, iL 0, iL 0, .sl [], iL 0, .sl [], iL 1, .sl []], [.lit (.bool true), iL 0, .lit (.bool false), iL 0, iL 0, iL 0, .sl [], iL 0, .sl [], iL 1, .sl []]]), .v (.sl []), .v (.sl []), iC 0])]⟩) (fun i => i ≤ 3) (fun i => 3 - i) 0 (weak_auto ?_) (Nat.zero_le _) ?_
             · simp -dsimp [go_sem]; done
             · intro j hj
               have hj3 : j = 0 ∨ j = 1 ∨ j = 2 ∨ j = 3 := by omega
               have wr1 : IntKind.i64.wrap 1 = 1 := IntWalk.i64_in _ (by omega)
               have wr2 : IntKind.i64.wrap (1 + 1) = 2 := IntWalk.i64_in _ (by omega)
               have wr3 : IntKind.i64.wrap (2 + 1) = 3 := IntWalk.i64_in _ (by omega)
               have wr2' : IntKind.i64.wrap 2 = 2 := IntWalk.i64_in _ (by omega)
               have wr3' : IntKind.i64.wrap 3 = 3 := IntWalk.i64_in _ (by omega)
               rcases hj3 with rfl | rfl | rfl | rfl
               · repeat' (first | (with_reducible first | refine Cn (fun h => ?_) fun h => ?_ | refine And.intro ?_ ?_ | refine wR ?_ | exact wr _ _ | refine weak_autoC ?_ | apply awp_join) | (with_reducible refine CallZ.z ?_) | simp -dsimp [go_sem, wr1, wr2, wr3, wr2', wr3', clean_nil, clean_cons, clean_yes, clean_no])
                 all_goals first
                   | omega
                   | (refine Again.auto 1 ?_ (by omega) (by omega)
                      simp -dsimp [go_sem]; done)
                   | trace_state
               · repeat' (first | (with_reducible first | refine Cn (fun h => ?_) fun h => ?_ | refine And.intro ?_ ?_ | refine wR ?_ | exact wr _ _ | refine weak_autoC ?_ | apply awp_join) | (with_reducible refine CallZ.z ?_) | simp -dsimp [go_sem, wr1, wr2, wr3, wr2', wr3', clean_nil, clean_cons, clean_yes, clean_no])
                 all_goals first
                   | omega
                   | (refine Again.auto 2 ?_ (by omega) (by omega)
                      simp -dsimp [go_sem]; done)
                   | trace_state
               · repeat' (first | (with_reducible first | refine Cn (fun h => ?_) fun h => ?_ | refine And.intro ?_ ?_ | refine wR ?_ | exact wr _ _ | refine weak_autoC ?_ | apply awp_join) | (with_reducible refine CallZ.z ?_) | simp -dsimp [go_sem, wr1, wr2, wr3, wr2', wr3', clean_nil, clean_cons, clean_yes, clean_no])
                 all_goals first
                   | omega
                   | (refine Again.auto 3 ?_ (by omega) (by omega)
                      simp -dsimp [go_sem]; done)
                   | trace_state
               · repeat' (first | (with_reducible first | refine Cn (fun h => ?_) fun h => ?_ | refine And.intro ?_ ?_ | refine wR ?_ | exact wr _ _ | refine weak_autoC ?_ | apply awp_join) | (with_reducible refine CallZ.z ?_) | simp -dsimp [go_sem, clean_nil, clean_cons, clean_yes, clean_no])
                 all_goals trace_state)
          | trace_state
      · have q1 : decide ((i : Int) < (l.length : Int)) = false := decide_eq_false (by omega)
        have q1' : decide (i < l.length) = false := decide_eq_false hil
        repeat' (first | (with_reducible first | refine Cn (fun h => ?_) fun h => ?_ | refine And.intro ?_ ?_ | refine wR ?_ | exact wr _ _ | refine weak_autoC ?_ | apply awp_join | refine q hwi ?_ | refine qd hwi ?_ | refine qz hwi ?_ | refine q hran ?_ | refine qd hran ?_ | refine qz hran ?_) | (exact ul_one rfl) | (with_reducible refine CallZ.z ?_) | simp -dsimp [go_sem, wr0, q1, q1', hlen, clean_nil, clean_cons, clean_yes, clean_no])
        all_goals first
          | omega
          | (refine awp_loop (fun i : Nat => ⟨[(5, .one (.ptr 0 0)), (7, iV i)], G, [some (.box 36 [.v (.sl [[.lit (.bool true), iL 0, .lit (.bool false), iL 0, iL 0, iL 0, .sl [], iL 0, .sl [], iL 1, .sl []], [.lit (.bool true), iL 0, .lit (.bool false), iL 0, iL 0, iL 0, .sl [], iL 0, .sl [], iL 1, .sl []], [.lit (.bool true), iL 0, .lit (.bool false), iL 0, iL 0, iL 0, .sl [], iL 0, .sl [], iL 1, .sl []]]), .v (.sl []), .v (.sl []), iC 0])]⟩) (fun i => i ≤ 3) (fun i => 3 - i) 0 (weak_auto ?_) (Nat.zero_le _) ?_
             · simp -dsimp [go_sem]; done
             · intro j hj
               have hj3 : j = 0 ∨ j = 1 ∨ j = 2 ∨ j = 3 := by omega
               have wr1 : IntKind.i64.wrap 1 = 1 := IntWalk.i64_in _ (by omega)
               have wr2 : IntKind.i64.wrap (1 + 1) = 2 := IntWalk.i64_in _ (by omega)
               have wr3 : IntKind.i64.wrap (2 + 1) = 3 := IntWalk.i64_in _ (by omega)
               have wr2' : IntKind.i64.wrap 2 = 2 := IntWalk.i64_in _ (by omega)
               have wr3' : IntKind.i64.wrap 3 = 3 := IntWalk.i64_in _ (by omega)
               rcases hj3 with rfl | rfl | rfl | rfl
               · repeat' (first | (with_reducible first | refine Cn (fun h => ?_) fun h => ?_ | refine And.intro ?_ ?_ | refine wR ?_ | exact wr _ _ | refine weak_autoC ?_ | apply awp_join) | (with_reducible refine CallZ.z ?_) | simp -dsimp [go_sem, wr1, wr2, wr3, wr2', wr3', clean_nil, clean_cons, clean_yes, clean_no])
                 all_goals first
                   | omega
                   | (refine Again.auto 1 ?_ (by omega) (by omega)
                      simp -dsimp [go_sem]; done)
                   | trace_state
               · repeat' (first | (with_reducible first | refine Cn (fun h => ?_) fun h => ?_ | refine And.intro ?_ ?_ | refine wR ?_ | exact wr _ _ | refine weak_autoC ?_ | apply awp_join) | (with_reducible refine CallZ.z ?_) | simp -dsimp [go_sem, wr1, wr2, wr3, wr2', wr3', clean_nil, clean_cons, clean_yes, clean_no])
                 all_goals first
                   | omega
                   | (refine Again.auto 2 ?_ (by omega) (by omega)
                      simp -dsimp [go_sem]; done)
                   | trace_state
               · repeat' (first | (with_reducible first | refine Cn (fun h => ?_) fun h => ?_ | refine And.intro ?_ ?_ | refine wR ?_ | exact wr _ _ | refine weak_autoC ?_ | apply awp_join) | (with_reducible refine CallZ.z ?_) | simp -dsimp [go_sem, wr1, wr2, wr3, wr2', wr3', clean_nil, clean_cons, clean_yes, clean_no])
                 all_goals first
                   | omega
                   | (refine Again.auto 3 ?_ (by omega) (by omega)
                      simp -dsimp [go_sem]; done)
                   | trace_state
               · repeat' (first | (with_reducible first | refine Cn (fun h => ?_) fun h => ?_ | refine And.intro ?_ ?_ | refine wR ?_ | exact wr _ _ | refine weak_autoC ?_ | apply awp_join) | (with_reducible refine CallZ.z ?_) | simp -dsimp [go_sem, clean_nil, clean_cons, clean_yes, clean_no])
                 all_goals trace_state)
          | trace_state
end Go.Proofs.YtkkleopmambcnaaGreatDoor
set_option linter.unusedVariables false
set_option linter.unusedSimpArgs false
set_option maxRecDepth 100000
set_option maxHeartbeats 8000000
namespace Go.Proofs.YtkkleopmambcnaaGreatDoor
open Go Go.ChangeShapes Go.WideShapes Go.ChangeAt Go.RowKit Go.Proofs.AE
abbrev laidV {H : Type} : List (String × DataW H) := [("rostrum/client.nothing", Rows.laid_rostrum_client_nothing)]
theorem gNoth : Tryz.prog.globalNamed "rostrum/client.nothing" = some 0 := by kernel_rfl
theorem tNoth : (Tryz.prog.globals[0]?).map (·.type) = some 27 := by kernel_rfl
theorem door_met (os : Os) (args : Array Value) : laidMetH Tryz.prog laidV ((World.doorLaid Tryz.prog 14 os).forCall (fun _ _ => 0) ⟨#[], args, []⟩).memory :=
  laidMetH_of_parts3 (fuel := 8) (laidMet_of_run' 8 (by kernel_rfl) (by kernel_rfl)) (by kernel_rfl) (by kernel_rfl)
def gN : Nat → AV := fun g => if g = 0 then .one (.vptr [.lit (.int .i64 22), .lit (.string ⟨#[]⟩), .lit (.string ⟨#[]⟩), .lit (.string ⟨#[]⟩), .lit (.int .i64 0)]) else .any
theorem gN_noth : Noth gN := rfl
theorem noth_cells {W : World} (h : laidMetH Tryz.prog laidV W) : W.cell? ⟨0, 0, none⟩ = some (.int .i64 22) ∧ W.cell? ⟨0, 1, none⟩ = some (.string ⟨#[]⟩) ∧ W.cell? ⟨0, 2, none⟩ = some (.string ⟨#[]⟩) ∧ W.cell? ⟨0, 3, none⟩ = some (.string ⟨#[]⟩) ∧ W.cell? ⟨0, 4, none⟩ = some (.int .i64 0) := by
  rw [MakeChecks.laidMetH_plain _ _ _ (by kernel_rfl)] at h
  obtain ⟨ps, ⟨g0, t0, cs0, f0, p0, q0, hg0, ht0, hv0, hd0, _, _⟩, _⟩ := h
  obtain rfl := Option.some.inj (gNoth.symm.trans hg0)
  obtain rfl := Option.some.inj (tNoth.symm.trans ht0)
  have hc := fun j => World.var?_cell hg0 hv0 j
  obtain ⟨xs, m, h1, h2, h3, h4, h5⟩ := DataW.trod_struct Tryz.underlying27 hd0
  have c3 : Tryz.prog.cellsOf 3 = 1 := by kernel_rfl
  have c9 : Tryz.prog.cellsOf 9 = 1 := by kernel_rfl
  have c41 : Tryz.prog.cellsOf 27 = 5 := by kernel_rfl
  rw [c41] at h3
  simp only [Prod.mk.injEq] at h2
  have h2 := h2.1
  unfold Rows.laid_rostrum_client_nothing at h2
  obtain ⟨l⟩ := cs0
  simp only at h3 h5
  have h4 : xs.length = 5 := h4
  clear hd0
  match l, h3, xs, h4 with
  | [y0, y1, y2, y3, y4], _, [x0, x1, x2, x3, x4], _ =>
    simp only [DataW.agg.injEq, List.map_cons, List.map_nil, List.cons.injEq, and_true] at h2
    obtain ⟨e0, e1, e2, e3, e4⟩ := h2
    have a0 : DataW.trod (fun _ => ()) Tryz.prog W 0 (fun _ => true) false m 3 [y0] = some x0 := by
      have h := h5 0 _ rfl
      change DataW.trod _ _ _ _ _ _ _ 3 (List.take (Tryz.prog.cellsOf 3) (y0 :: _)) = _ at h
      rw [c3] at h
      exact h
    have a1 : DataW.trod (fun _ => ()) Tryz.prog W 0 (fun _ => true) false m 9 [y1] = some x1 := by
      have h := h5 1 _ rfl
      change DataW.trod _ _ _ _ _ _ _ 9 (List.take (Tryz.prog.cellsOf 9) (y1 :: _)) = _ at h
      rw [c9] at h
      exact h
    have a2 : DataW.trod (fun _ => ()) Tryz.prog W 0 (fun _ => true) false m 9 [y2] = some x2 := by
      have h := h5 2 _ rfl
      change DataW.trod _ _ _ _ _ _ _ 9 (List.take (Tryz.prog.cellsOf 9) (y2 :: _)) = _ at h
      rw [c9] at h
      exact h
    have a3 : DataW.trod (fun _ => ()) Tryz.prog W 0 (fun _ => true) false m 9 [y3] = some x3 := by
      have h := h5 3 _ rfl
      change DataW.trod _ _ _ _ _ _ _ 9 (List.take (Tryz.prog.cellsOf 9) (y3 :: _)) = _ at h
      rw [c9] at h
      exact h
    have a4 : DataW.trod (fun _ => ()) Tryz.prog W 0 (fun _ => true) false m 3 [y4] = some x4 := by
      have h := h5 4 _ rfl
      change DataW.trod _ _ _ _ _ _ _ 3 (List.take (Tryz.prog.cellsOf 3) (y4 :: _)) = _ at h
      rw [c3] at h
      exact h
    obtain ⟨n0, b0, r0, _⟩ := DataW.trod_int Tryz.underlying3 (x := x0) a0
    obtain ⟨s1, b1, r1, _⟩ := DataW.trod_string Tryz.underlying9 (x := x1) a1
    obtain ⟨s2, b2, r2, _⟩ := DataW.trod_string Tryz.underlying9 (x := x2) a2
    obtain ⟨s3, b3, r3, _⟩ := DataW.trod_string Tryz.underlying9 (x := x3) a3
    obtain ⟨n4, b4, r4, _⟩ := DataW.trod_int Tryz.underlying3 (x := x4) a4
    have emp : ∀ s : ByteArray, s.data.toList = [] → s = ⟨#[]⟩ := fun s h => ba_ext h
    subst r0; subst r1; subst r2; subst r3; subst r4
    simp only [DataW.lit.injEq, Lit.int.injEq, Lit.string.injEq] at e0 e1 e2 e3 e4
    have e1 := emp s1 e1.symm
    have e2 := emp s2 e2.symm
    have e3 := emp s3 e3.symm
    have k0 : (22 : Int) = n0 := by simpa using e0
    have k4 : (0 : Int) = n4 := by simpa using e4
    simp at b0 b1 b2 b3 b4
    subst b0; subst b1; subst b2; subst b3; subst b4; subst e1; subst e2; subst e3; subst k0; subst k4
    refine ⟨?_, ?_, ?_, ?_, ?_⟩ <;> (rw [hc]; rfl)
theorem gN_rel {W : World} (h : laidMetH Tryz.prog laidV W) (hb : 0 < W.heap.size) : GRel W (fun b => b < W.heap.size) gN := by
  intro g ν
  obtain ⟨h0, h1, h2, h3, h4⟩ := noth_cells h
  unfold gN
  by_cases hg : g = 0
  · subst hg
    rw [if_pos rfl]
    refine .one (.vptr 0 0 (fun j => if j = 0 then .int .i64 22 else if j = 4 then .int .i64 0 else .string ⟨#[]⟩) hb ?_ ?_)
    · intro j v hj
      match j, hj with
      | 0, _ => exact h0
      | 1, _ => exact h1
      | 2, _ => exact h2
      | 3, _ => exact h3
      | 4, _ => exact h4
    · intro j v hj
      match j, hj with
      | 0, hj => cases hj; exact .lit _ rfl
      | 1, hj => cases hj; exact .lit _ rfl
      | 2, hj => cases hj; exact .lit _ rfl
      | 3, hj => cases hj; exact .lit _ rfl
      | 4, hj => cases hj; exact .lit _ rfl
  · rw [if_neg hg]
    exact .any
theorem heap_pos {W : World} (h : laidMetH Tryz.prog laidV W) : 0 < W.heap.size := by
  have h0 := (noth_cells h).1
  unfold World.cell? at h0
  split at h0
  · rename_i hx
    exact (Array.getElem?_eq_some_iff.1 hx).1
  · cases h0
end Go.Proofs.YtkkleopmambcnaaGreatDoor
set_option linter.unusedVariables false
set_option linter.unusedSimpArgs false
set_option maxRecDepth 100000
set_option maxHeartbeats 8000000
namespace Go.Proofs.YtkkleopmambcnaaGreatDoor.topStart
open Go
theorem and2 {a b : Bool} (h : a = true) (k : b = true) : (a && b) = true := by rw [h, k]; rfl
theorem lim0 : (Rows.topStartRow.wf (OpenSpec.ofChange Rows.topStartSpec)) = true := by kernel_rfl
theorem lim1 : (laidOutB Tryz.checked.prog) = true := by kernel_rfl
theorem lim2 : (mapsRowed Tryz.checked.prog) = true := by kernel_rfl
theorem lim3 : (Tryz.f4.params.all (Tryz.checked.prog.readableRec ·)) = true := by kernel_rfl
theorem lim4 : (namedTie Tryz.checked.prog Rows.topStartRow.named Rows.topStartSpec.vars) = true := by kernel_rfl
theorem lim5 : ((Rows.topStartRow.stops == [])) = true := by kernel_rfl
theorem lim6 : ((Tryz.checked.prog.stops == [])) = true := by kernel_rfl
theorem lim7 : ((Rows.topStartRow.knobs == [])) = true := by kernel_rfl
theorem lim8 : ((Tryz.checked.prog.stopKnobs == [])) = true := by kernel_rfl
theorem lim9 : ((Rows.topStartRow.inPlace == Tryz.checked.prog.inPlace 4)) = true := by kernel_rfl
theorem lim10 : ((Rows.topStartRow.unfollowed == Tryz.checked.prog.unfollowed 4)) = true := by kernel_rfl
theorem lim11 : ((Rows.topStartRow.recurses == Tryz.checked.prog.recurses 4)) = true := by kernel_rfl
theorem lim12 : ((Rows.topStartRow.named == Tryz.checked.prog.varsNamed 4)) = true := by kernel_rfl
theorem lim13 : ((Rows.topStartRow.maps == (Tryz.f4.params.toList ++ Rows.topStartSpec.plain.varTypes Tryz.checked.prog).any (Tryz.checked.prog.mapsRec ·))) = true := by kernel_rfl
theorem lim14 : ((Rows.topStartRow.ifaces == (Tryz.f4.params.toList ++ Rows.topStartSpec.plain.varTypes Tryz.checked.prog).any (Tryz.checked.prog.ifacesRec ·))) = true := by kernel_rfl
theorem lim15 : ((Rows.topStartRow.mapsOut == Tryz.checked.prog.mapsAmong Tryz.f4.resultTypes.toList)) = true := by kernel_rfl
theorem lim16 : ((Rows.topStartRow.loops == (Tryz.f4.params.toList ++ Rows.topStartSpec.plain.varTypes Tryz.checked.prog).any (Tryz.checked.prog.loopsFrom ·))) = true := by kernel_rfl
theorem lim17 : ((Rows.topStartRow.wideKeys == (Tryz.f4.params.toList ++ Rows.topStartSpec.plain.varTypes Tryz.checked.prog ++ Tryz.f4.resultTypes.toList).any (Tryz.checked.prog.wideKeysFrom ·))) = true := by kernel_rfl
theorem lim18 : (Rows.topStartSpec.vars.all (Tryz.checked.prog.varReadable ·)) = true := by kernel_rfl
theorem lim19 : (Tryz.f4.resultTypes.all (fun t => Tryz.checked.prog.readableRec t && decide (t < Tryz.checked.prog.types.size))) = true := by kernel_rfl
theorem lim20 : ((Rows.topStartRow.ifacesOut == Tryz.f4.resultTypes.toList.any (Tryz.checked.prog.ifacesRec ·))) = true := by kernel_rfl
theorem lim21 : ((Rows.topStartRow.loopsOut == Tryz.f4.resultTypes.toList.any (Tryz.checked.prog.loopsFrom ·))) = true := by kernel_rfl
theorem lim22 : ((Rows.topStartRow.plainKeys == Tryz.checked.prog.plainKeys)) = true := by kernel_rfl
theorem lim23 : (Rows.topStartRow.shortTexts.isNone) = true := by kernel_rfl
theorem lim24 : (Tryz.checked.prog.stopsHeard) = true := by kernel_rfl
theorem lim25 : (Tryz.checked.prog.mayEnter) = true := by kernel_rfl
theorem lim26 : ((Rows.topStartRow.lifted == Tryz.checked.prog.liftsFinal)) = true := by kernel_rfl
theorem lim27 : ((Tryz.checked.prog.make == some Rows.topStartRow.make)) = true := by kernel_rfl
theorem lim28 : ((Rows.topStartRow.kinds == (if Rows.topStartRow.domain.isEmpty then [] else Tryz.f4.params.toList.map fun t => match Tryz.checked.prog.underlying t with | some (.int k) => some k | _ => none))) = true := by kernel_rfl
theorem lim29 : ((Rows.topStartRow.pinned == Rows.topStartRow.pinnedBy)) = true := by kernel_rfl
theorem lim30 : ((Rows.topStartRow.veiled == (Tryz.f4.params.toList ++ Rows.topStartSpec.plain.varTypes Tryz.checked.prog ++ Tryz.f4.resultTypes.toList).any (Tryz.checked.prog.veiledRec ·))) = true := by kernel_rfl
theorem lim31 : (Rows.topStartRow.veiledFits Tryz.checked.prog Tryz.f4.params.toList (Tryz.f4.params.toList ++ Rows.topStartSpec.plain.varTypes Tryz.checked.prog ++ Tryz.f4.resultTypes.toList)) = true := by kernel_rfl
theorem joined : joinedFacts Tryz.checked.prog 4 Tryz.f4 Rows.topStartSpec Rows.topStartRow = true := by
  unfold joinedFacts
  exact and2 (and2 (and2 (and2 (and2 (and2 (and2 (and2 (and2 (and2 (and2 (and2 (and2 (and2 (and2 (and2 (and2 (and2 (and2 (and2 (and2 (and2 (and2 (and2 (and2 (and2 (and2 (and2 (and2 (and2 (and2 lim0 lim1) lim2) lim3) lim4) lim5) lim6) lim7) lim8) lim9) lim10) lim11) lim12) lim13) lim14) lim15) lim16) lim17) lim18) lim19) lim20) lim21) lim22) lim23) lim24) lim25) lim26) lim27) lim28) lim29) lim30) lim31
end Go.Proofs.YtkkleopmambcnaaGreatDoor.topStart
