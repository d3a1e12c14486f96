/- What commands make of a set, told by what is found in it. -/
import Derived.Test.YtacdeehkdepiaaaL12
set_option linter.unusedVariables false
set_option linter.unusedSimpArgs false
set_option maxRecDepth 100000
set_option maxHeartbeats 8000000
namespace Go.Proofs.Ytacdeehkdepiaaa
open Go Go.RowKit Go.Proofs.AE
variable {G : Nat → AV}
def ten : List ByteArray := ⟨#[]⟩ :: nine
theorem text_ten (n : Int) : cmdText n ⟨#[]⟩ ∈ ten := by
  unfold cmdText
  split
  · exact List.mem_cons_of_mem _ (some_nine n)
  · have : cutS ⟨#[]⟩ 6 = ⟨#[]⟩ := by decide
    rw [this]; exact List.mem_cons_self ..
theorem wrap_i64 (n : Int) : i64 (IntKind.i64.wrap n) := by
  rw [IntKind.wrap_i64]; unfold i64; omega
/-- A set of few members, or nothing. -/
structure SetI (v : Val) : Prop where
  ok : v = zeroV ∨ OkV v ∧ v.kind = 5
  few : ∀ p ∈ v.items, p ∈ ten
theorem SetI.vk {v : Val} (h : SetI v) : Vk v := by
  rcases h.ok with h | h
  · exact .inr h
  · exact .inl h.1
theorem SetI.rise {v : Val} (h : SetI v) : v.items.Pairwise (fun a b => cmpB a b < 0) := by
  rcases h.ok with h | h
  · rw [h]; exact .nil
  · exact h.1.riseI h.2
theorem SetI.len {v : Val} (h : SetI v) : v.items.length ≤ 10 :=
  nodup_le v.items ten (h.rise.imp fun h => cmp_ne h) h.few
theorem flag_one (b : Bool) : (flagN b == 1) = b := by cases b <;> rfl
/-- What a command makes of a set. -/
theorem set_do {v : Val} {c : Cmd} (h : SetI v) (hc : checkC c = 0) (hk : c.kind = 11 ∨ c.kind = 12 ∨ c.kind = 13) (hf : c.text ∈ ten) {x : Option Value} (hx : mpFind (encI v.items) c.text = x) :
    ∃ w r, DoV v c = (w, r, 0) ∧ SetI w ∧ Vk w ∧
      (c.kind = 11 → r.code = 0 ∧ (r.n == 1) = !x.isSome ∧ (encI w.items).length = (if x.isSome = true then (encI v.items).length else (encI v.items).length + 1) ∧ ∀ g, mpFind (encI w.items) g = if g = c.text then some (.bool true) else mpFind (encI v.items) g) ∧
      (c.kind ≠ 11 → v.items.length = 0 → r.code = 5 ∧ w = v) ∧
      (c.kind = 13 → 0 < v.items.length → w = v ∧ r.code = 0 ∧ (r.n == 1) = x.isSome) ∧
      (c.kind = 12 → 0 < v.items.length → r.code = 0 ∧ (r.n == 1) = x.isSome ∧ (encI w.items).length = (if x.isSome = true then (encI v.items).length - 1 else (encI v.items).length) ∧ ∀ g, mpFind (encI w.items) g = if g = c.text then none else mpFind (encI v.items) g) := by
  have hlen := h.len
  have hrise := h.rise
  have honce := encI_once hrise
  have hin := set_in hrise c.text
  rw [hx] at hin
  have hvk := DoV_vk h.vk hc (by omega)
  have hkc : kindOfC c.kind = 5 := by unfold kindOfC; rcases hk with e | e | e <;> rw [e] <;> rfl
  have key : ∀ u : Val, u.kind = 5 → u.items = v.items → doV u c = ({ u with items := (setV v.items c).1 }, (setV v.items c).2) := by
    intro u h3 hp
    unfold doV
    rw [if_neg (by omega), if_neg (by omega), if_neg (by omega), if_neg (by omega), if_neg (by omega), if_neg (by omega), if_neg (by omega), if_pos h3, hp]
  have hmem : ∀ p ∈ (setV v.items c).1, p ∈ ten := by
    intro p hp
    unfold setV at hp
    simp only at hp
    have hv := h.few
    repeat' split at hp
    · exact hv p hp
    · exact hv p hp
    · rcases mem_ins hp with hp | hp
      · rw [hp]; exact hf
      · exact hv p hp
    · exact hv p (mem_del hp)
    · exact hv p hp
    · exact hv p hp
  have hcase : v = zeroV ∧ c.kind ≠ 11 ∨ ∃ u : Val, u.kind = 5 ∧ u.items = v.items ∧ u.pairs = [] ∧ u.scores = [] ∧ (0 < v.items.length → u = v) ∧ (c.kind = 11 ∨ 0 < v.items.length) ∧ DoV v c = DoEnd v (doV u c) := by
    rcases h.ok with hz | ⟨ok, h3⟩
    · by_cases h4 : c.kind = 11
      · refine .inr ⟨⟨5, ⟨#[]⟩, 0, [], [], []⟩, rfl, by rw [hz]; rfl, rfl, rfl, fun h => by rw [hz] at h; exact absurd h (by decide), .inl h4, ?_⟩
        rw [hz, DoV_zero hc (by omega), if_pos (by unfold makesC; rw [h4]; rfl), hkc]
      · exact .inl ⟨hz, h4⟩
    · refine .inr ⟨v, h3, rfl, ok.pairs.resolve_left (by omega), ok.scores.resolve_left (by omega), fun _ => rfl, .inr ?_, ?_⟩
      · have := (ok.els (by omega)).1
        unfold Val.els at this
        rw [ok.pairs.resolve_left (by omega), ok.scores.resolve_left (by omega)] at this
        simp at this; omega
      exact DoV_go (checkV_iff.2 ok) hc (by omega) (by
        rintro (hh | hh)
        · exact hh.2 (by rw [hkc, h3])
        · omega)
  rcases hcase with ⟨hz, h4⟩ | ⟨u, u1, u2, u3, u4, u5, u6, e⟩
  · have e : DoV v c = (zeroV, failR 5, 0) := by
      rw [hz, DoV_zero hc (by omega), if_neg (by unfold makesC; rcases hk with e | e | e <;> rw [e] at h4 ⊢ <;> simp at h4 ⊢)]
    refine ⟨zeroV, failR 5, e, ⟨.inl rfl, fun p hp => by cases hp⟩, .inr rfl, fun h => absurd h h4, fun _ _ => ⟨rfl, hz.symm⟩, fun _ h => ?_, fun _ h => ?_⟩
    · rw [hz] at h; exact absurd h (by decide)
    · rw [hz] at h; exact absurd h (by decide)
  · rw [key u u1 u2] at e
    obtain ⟨P, hP⟩ : ∃ P, (setV v.items c).1 = P := ⟨_, rfl⟩
    obtain ⟨R, hR⟩ : ∃ R, (setV v.items c).2 = R := ⟨_, rfl⟩
    rw [hP, hR] at e
    rw [hP] at hmem
    have hI : ∀ w, Vk w → (w.kind ≠ 0 → w.kind = 5) → (∀ p ∈ w.items, p ∈ ten) → SetI w := by
      intro w h1 h2 h3
      refine ⟨?_, h3⟩
      rcases h1 with h1 | h1
      · exact .inr ⟨h1, h2 (by have := h1.kind; omega)⟩
      · exact .inl h1
    have hRc : R.code = 0 := by
      rw [← hR]
      unfold setV
      simp only
      repeat' split
      all_goals first | rfl | (exfalso; omega)
    have hend : ∃ w, DoV v c = (w, R, 0) ∧ SetI w ∧ Vk w ∧ w.items = P ∧ (0 < P.length → w = { u with items := P }) := by
      by_cases hl : P.length = 0
      · have hP0 : P = [] := List.eq_nil_of_length_eq_zero hl
        refine ⟨zeroV, ?_, ⟨.inl rfl, fun p hp => by cases hp⟩, .inr rfl, hP0.symm, fun h => by omega⟩
        rw [e]
        exact DoEnd_none hRc (by show 3 ≤ u.kind; omega) (by unfold Val.els; simp only; rw [hl, u3, u4]; rfl)
      · have e' : DoV v c = ({ u with items := P }, R, 0) := by
          rw [e]
          refine DoEnd_some hRc fun hh => ?_
          have := hh.2
          unfold Val.els at this
          simp only at this
          omega
        rw [e'] at hvk
        exact ⟨_, e', hI _ hvk.2 (fun _ => u1) hmem, hvk.2, rfl, fun _ => rfl⟩
    obtain ⟨w, e1, hw, hwk, hwp, hwu⟩ := hend
    have hR' := hR
    have hP' := hP
    unfold setV at hR' hP'
    simp only [hin] at hR' hP'
    have hget : ∀ {a : ByteArray} {i : Nat}, v.items[i]? = some a → (encI v.items)[i]? = some (a, .bool true) := fun h => by unfold encI; rw [List.getElem?_map, h]; rfl
    rcases hk with k4 | k6 | k5
    · rw [if_pos k4] at hR' hP'
      cases hs : x.isSome with
      | true =>
        rw [hs, if_pos rfl] at hR' hP'
        rw [hs] at hin
        have h3 := setIn_some hin
        have hxt : mpFind (encI v.items) c.text = some (.bool true) := find_at honce (hget h3)
        refine ⟨w, R, e1, hw, hwk, fun _ => ⟨hRc, by rw [← hR']; rfl, ?_, fun g => ?_⟩, fun h => absurd k4 h, fun h => by omega, fun h => by omega⟩
        · rw [if_pos rfl, hwp, ← hP']
        · rw [hwp, ← hP']
          split
          · rename_i hg; rw [hg, hxt]
          · rfl
      | false =>
        rw [hs] at hR' hP'
        simp only [Bool.false_eq_true, if_false] at hR' hP'
        rw [if_neg (by omega)] at hR' hP'
        have hxn : mpFind (encI v.items) c.text = none := by rw [hx]; cases x with | none => rfl | some => cases hs
        refine ⟨w, R, e1, hw, hwk, fun _ => ⟨hRc, by rw [← hR']; rfl, ?_, fun g => ?_⟩, fun h => absurd k4 h, fun h => by omega, fun h => by omega⟩
        · rw [if_neg (by simp), encI_len, encI_len, hwp, ← hP', insAt_length]
        · rw [hwp, ← hP', ← find_ins (encI v.items) (setAt v.items c.text) c.text (.bool true) hxn g]
          unfold encI
          rw [← map_ins (fun p : ByteArray => (p, Value.bool true))]
    · rw [if_neg (by omega), if_pos k6] at hR' hP'
      cases hs : x.isSome with
      | true =>
        rw [hs, if_pos rfl] at hR' hP'
        rw [hs] at hin
        have h3 := setIn_some hin
        refine ⟨w, R, e1, hw, hwk, fun h => by omega, fun _ h => by omega, fun h => by omega, fun _ _ => ⟨hRc, by rw [← hR']; rfl, ?_, fun g => ?_⟩⟩
        · rw [if_pos rfl, encI_len, encI_len, hwp, ← hP', delAt_len (lt_of_getElem? h3)]
        · rw [hwp, ← hP', ← find_delAt (encI v.items) honce (setAt v.items c.text) c.text (.bool true) (hget h3) g]
          unfold encI
          rw [← map_del (fun p : ByteArray => (p, Value.bool true))]
      | false =>
        rw [hs] at hR' hP'
        simp only [Bool.false_eq_true, if_false] at hR' hP'
        have hxn : mpFind (encI v.items) c.text = none := by rw [hx]; cases x with | none => rfl | some => cases hs
        refine ⟨w, R, e1, hw, hwk, fun h => by omega, fun _ h => by omega, fun h => by omega, fun _ _ => ⟨hRc, by rw [← hR']; rfl, ?_, fun g => ?_⟩⟩
        · rw [if_neg (by simp), hwp, ← hP']
        · rw [hwp, ← hP']
          split
          · rename_i hg; rw [hg, hxn]
          · rfl
    · rw [if_neg (by omega), if_neg (by omega)] at hR' hP'
      have hpos := u6.resolve_left (by omega)
      have hwv : w = v := by
        rw [hwu (by rw [← hP']; exact hpos), ← hP', u5 hpos]
      exact ⟨w, R, e1, hw, hwk, fun h => by omega, fun _ h => by omega, fun _ _ => ⟨hwv, hRc, by rw [← hR']; exact flag_one _⟩, fun h => by omega⟩
end Go.Proofs.Ytacdeehkdepiaaa
