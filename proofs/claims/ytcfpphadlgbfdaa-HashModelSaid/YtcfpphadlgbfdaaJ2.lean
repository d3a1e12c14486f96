/- What the value layer's searches and checks answer. -/
import Derived.Test.YtcfpphadlgbfdaaC
import Derived.Test.YtcfpphadlgbfdaaJ1
set_option linter.unusedVariables false
set_option linter.unusedSimpArgs false
set_option maxRecDepth 100000
set_option maxHeartbeats 8000000
namespace Go.Proofs.Ytcfpphadlgbfdaa
open Go Go.RowKit Go.Proofs.AE
variable {G : Nat → AV}
abbrev Pr := ByteArray × ByteArray
abbrev Sc := ByteArray × Int
abbrev row_api_Pair (p : Pr) : List V := [V.lit (.string p.1), V.lit (.string p.2)]
abbrev row_api_Score (p : Sc) : List V := [V.lit (.string p.1), V.lit (.int .i64 p.2)]
abbrev row_string (p : ByteArray) : List V := [V.lit (.string p)]
abbrev arg_api_Pair (p : Pr) : AV := .agg [sC p.1, sC p.2]
abbrev arg_api_Score (p : Sc) : AV := .agg [sC p.1, iC p.2]
abbrev arg_string (p : ByteArray) : AV := sV p
def firstI {α : Type} (p : α → Bool) : Nat → List α → Int
  | _, [] => -1
  | i, s :: l => if p s then (i : Int) else firstI p (i + 1) l
theorem firstI_drop {α : Type} (p : α → Bool) (l : List α) {i : Nat} (h : i < l.length) : firstI p i (l.drop i) = if p l[i] then (i : Int) else firstI p (i + 1) (l.drop (i + 1)) := by
  rw [List.drop_eq_getElem_cons h]; rfl
theorem firstI_ge {α : Type} (p : α → Bool) : ∀ (l : List α) (i : Nat), (decide (0 ≤ firstI p i l)) = l.any p
  | [], _ => by simp [firstI]
  | s :: l, i => by
    simp only [firstI, List.any_cons]
    by_cases h : p s = true
    · simp [h]
    · have h' : p s = false := by simpa using h
      simpa [h'] using firstI_ge p l (i + 1)
/-- Do they rise? -/
def rising {α : Type} (cmp : α → α → Int) : List α → Bool
  | a :: b :: r => decide (cmp a b < 0) && rising cmp (b :: r)
  | _ => true
theorem rising_drop {α : Type} (cmp : α → α → Int) (l : List α) {i : Nat} (h : i + 1 < l.length) : rising cmp (l.drop i) = (decide (cmp l[i] l[i + 1] < 0) && rising cmp (l.drop (i + 1))) := by
  rw [List.drop_eq_getElem_cons (by omega : i < l.length), List.drop_eq_getElem_cons h]; rfl
theorem indexFunc_api_Pair (g : Nat) (p : Pr → Bool) (l : List Pr) (hl : (l.length : Int) ≤ 9223372036854775807) (he : enters Try.prog g = true) (hp : ∀ s, PCall Try.prog G g [arg_api_Pair s] (bV (p s))) :
    PCall Try.prog G 47 [.one (.v (.sl (l.map row_api_Pair))), .fn g [] []] (iV (firstI p 0 l)) := by
  refine pcallc mixed Try.func47 ac_slices_IndexFunc_api_Pair ?_
  simp -dsimp [go_sem]
  refine awp_loop (fun i : Nat => ⟨[(0, .one (.v (.sl (l.map row_api_Pair)))), (1, .fn g [] []), (7, iV l.length), (8, iV i)], G, []⟩) (fun i => i ≤ l.length ∧ firstI p 0 l = firstI p i (l.drop i)) (fun i => l.length - i) 0 (weak_auto ?_) ⟨Nat.zero_le _, rfl⟩ ?_
  · simp -dsimp [go_sem]
  · rintro i ⟨hi, hx⟩
    rw [hx]
    simp -dsimp [go_sem]
    refine Cnd.intro (fun h => ?_) (fun h => ?_)
    · have hlt : i < l.length := by simpa using h
      have hgi : (l.map row_api_Pair)[i]? = some (row_api_Pair l[i]) := by simp [hlt]
      simp -dsimp [go_sem, hgi, he]
      refine CallZ.l ((hp l[i]).kf rfl ?_)
      simp -dsimp [go_sem]
      rw [firstI_drop p l hlt]
      refine Cnd.intro (fun h => ?_) (fun h => ?_)
      · simp -dsimp [go_sem, h]
      · simp -dsimp [go_sem]
        have h' : p l[i] = false := by simpa using h
        rw [h']
        refine Again.auto (i + 1) ?_ ⟨hlt, rfl⟩ (by omega)
        rw [IntWalk.i64_in _ (by omega)]
        simp -dsimp [go_sem]
    · have hge : ¬ i < l.length := by simpa using h
      have : i = l.length := by omega
      simp -dsimp [go_sem, firstI, this]
theorem containsFunc_api_Pair (g : Nat) (p : Pr → Bool) (l : List Pr) (hl : (l.length : Int) ≤ 9223372036854775807) (he : enters Try.prog g = true) (hp : ∀ s, PCall Try.prog G g [arg_api_Pair s] (bV (p s))) :
    PCall Try.prog G 23 [.one (.v (.sl (l.map row_api_Pair))), .fn g [] []] (bV (l.any p)) := by
  refine pcallc mixed Try.func23 ac_slices_ContainsFunc_api_Pair ?_
  simp -dsimp [go_sem]
  refine CallZ.l ((indexFunc_api_Pair g p l hl he hp).kf rfl ?_)
  rw [← firstI_ge p l 0]
  simp -dsimp [go_sem]
theorem indexFunc_api_Score (g : Nat) (p : Sc → Bool) (l : List Sc) (hl : (l.length : Int) ≤ 9223372036854775807) (he : enters Try.prog g = true) (hp : ∀ s, PCall Try.prog G g [arg_api_Score s] (bV (p s))) :
    PCall Try.prog G 48 [.one (.v (.sl (l.map row_api_Score))), .fn g [] []] (iV (firstI p 0 l)) := by
  refine pcallc mixed Try.func48 ac_slices_IndexFunc_api_Score ?_
  simp -dsimp [go_sem]
  refine awp_loop (fun i : Nat => ⟨[(0, .one (.v (.sl (l.map row_api_Score)))), (1, .fn g [] []), (7, iV l.length), (8, iV i)], G, []⟩) (fun i => i ≤ l.length ∧ firstI p 0 l = firstI p i (l.drop i)) (fun i => l.length - i) 0 (weak_auto ?_) ⟨Nat.zero_le _, rfl⟩ ?_
  · simp -dsimp [go_sem]
  · rintro i ⟨hi, hx⟩
    rw [hx]
    simp -dsimp [go_sem]
    refine Cnd.intro (fun h => ?_) (fun h => ?_)
    · have hlt : i < l.length := by simpa using h
      have hgi : (l.map row_api_Score)[i]? = some (row_api_Score l[i]) := by simp [hlt]
      simp -dsimp [go_sem, hgi, he]
      refine CallZ.l ((hp l[i]).kf rfl ?_)
      simp -dsimp [go_sem]
      rw [firstI_drop p l hlt]
      refine Cnd.intro (fun h => ?_) (fun h => ?_)
      · simp -dsimp [go_sem, h]
      · simp -dsimp [go_sem]
        have h' : p l[i] = false := by simpa using h
        rw [h']
        refine Again.auto (i + 1) ?_ ⟨hlt, rfl⟩ (by omega)
        rw [IntWalk.i64_in _ (by omega)]
        simp -dsimp [go_sem]
    · have hge : ¬ i < l.length := by simpa using h
      have : i = l.length := by omega
      simp -dsimp [go_sem, firstI, this]
theorem containsFunc_api_Score (g : Nat) (p : Sc → Bool) (l : List Sc) (hl : (l.length : Int) ≤ 9223372036854775807) (he : enters Try.prog g = true) (hp : ∀ s, PCall Try.prog G g [arg_api_Score s] (bV (p s))) :
    PCall Try.prog G 26 [.one (.v (.sl (l.map row_api_Score))), .fn g [] []] (bV (l.any p)) := by
  refine pcallc mixed Try.func26 ac_slices_ContainsFunc_api_Score ?_
  simp -dsimp [go_sem]
  refine CallZ.l ((indexFunc_api_Score g p l hl he hp).kf rfl ?_)
  rw [← firstI_ge p l 0]
  simp -dsimp [go_sem]
theorem rising_api_Pair (g : Nat) (cmp : Pr → Pr → Int) (l : List Pr) (hl : (l.length : Int) ≤ 9223372036854775806) (he : enters Try.prog g = true) (hp : ∀ a b, PCall Try.prog G g [arg_api_Pair a, arg_api_Pair b] (iV (cmp a b))) :
    PCall Try.prog G 30 [.one (.v (.sl (l.map row_api_Pair))), .fn g [] []] (bV (rising cmp l)) := by
  refine pcallc mixed Try.func30 ac_value_rising_api_Pair ?_
  simp -dsimp [go_sem]
  refine awp_loop (fun i : Nat => ⟨[(0, .one (.v (.sl (l.map row_api_Pair)))), (1, .fn g [] []), (5, iV ((i : Int) + 1))], G, []⟩) (fun i => (i = 0 ∨ i < l.length) ∧ rising cmp l = rising cmp (l.drop i)) (fun i => l.length - i) 0 (weak_auto ?_) ⟨.inl rfl, rfl⟩ ?_
  · simp -dsimp [go_sem]
  · rintro i ⟨hi, hx⟩
    rw [hx]
    have w1 : i < l.length → IntKind.i64.wrap (i : Int) = i := fun _ => IntWalk.i64_in _ (by omega)
    have w2 : IntKind.i64.wrap ((i : Int) + 1 + 1) = (i : Int) + 1 + 1 := IntWalk.i64_in _ (by omega)
    simp -dsimp [go_sem]
    refine Cnd.intro (fun h => ?_) (fun h => ?_)
    · have hlt : i + 1 < l.length := by simp at h; omega
      have w1 := w1 (by omega)
      obtain ⟨a, ha⟩ : ∃ a, l[i] = a := ⟨_, rfl⟩
      obtain ⟨b, hb⟩ : ∃ b, l[i + 1] = b := ⟨_, rfl⟩
      have hgi : l[i]? = some a := by rw [List.getElem?_eq_getElem (by omega), ha]
      have hgj : l[i + 1]? = some b := by rw [List.getElem?_eq_getElem hlt, hb]
      have t1 : ((i : Int) + 1).toNat = i + 1 := by omega
      rw [rising_drop cmp l hlt, ha, hb]
      have hc := hp a b
      repeat' (first | (with_reducible first | refine Cn (fun h => ?_) fun h => ?_ | refine And.intro ?_ ?_ | refine wR ?_ | exact wr _ _ | refine wa ?_ | apply awp_join | refine q hc ?_ | refine qd hc ?_ | refine qz hc ?_) | (with_reducible refine CallZ.z ?_) | simp -dsimp [go_sem, hgi, hgj, he, w1, w2, t1])
      all_goals first
        | omega
        | (intro h'; simp at h; omega)
        | (with_reducible refine Again.auto (i + 1) ?_ ?_ ?_)
      all_goals first
        | (simp -dsimp [go_sem]; done)
        | (refine ⟨.inr hlt, ?_⟩; simp at h; simp [h]; done)
        | (show l.length - (i + 1) < l.length - i; omega)
    · have hge : ¬ i + 1 < l.length := by simp at h; omega
      have : rising cmp (l.drop i) = true := by
        cases hd : l.drop i with
        | nil => rfl
        | cons a r =>
          cases r with
          | nil => rfl
          | cons b r =>
            have := congrArg List.length hd
            simp at this; omega
      simp -dsimp [go_sem, this]
theorem rising_api_Score (g : Nat) (cmp : Sc → Sc → Int) (l : List Sc) (hl : (l.length : Int) ≤ 9223372036854775806) (he : enters Try.prog g = true) (hp : ∀ a b, PCall Try.prog G g [arg_api_Score a, arg_api_Score b] (iV (cmp a b))) :
    PCall Try.prog G 32 [.one (.v (.sl (l.map row_api_Score))), .fn g [] []] (bV (rising cmp l)) := by
  refine pcallc mixed Try.func32 ac_value_rising_api_Score ?_
  simp -dsimp [go_sem]
  refine awp_loop (fun i : Nat => ⟨[(0, .one (.v (.sl (l.map row_api_Score)))), (1, .fn g [] []), (5, iV ((i : Int) + 1))], G, []⟩) (fun i => (i = 0 ∨ i < l.length) ∧ rising cmp l = rising cmp (l.drop i)) (fun i => l.length - i) 0 (weak_auto ?_) ⟨.inl rfl, rfl⟩ ?_
  · simp -dsimp [go_sem]
  · rintro i ⟨hi, hx⟩
    rw [hx]
    have w1 : i < l.length → IntKind.i64.wrap (i : Int) = i := fun _ => IntWalk.i64_in _ (by omega)
    have w2 : IntKind.i64.wrap ((i : Int) + 1 + 1) = (i : Int) + 1 + 1 := IntWalk.i64_in _ (by omega)
    simp -dsimp [go_sem]
    refine Cnd.intro (fun h => ?_) (fun h => ?_)
    · have hlt : i + 1 < l.length := by simp at h; omega
      have w1 := w1 (by omega)
      obtain ⟨a, ha⟩ : ∃ a, l[i] = a := ⟨_, rfl⟩
      obtain ⟨b, hb⟩ : ∃ b, l[i + 1] = b := ⟨_, rfl⟩
      have hgi : l[i]? = some a := by rw [List.getElem?_eq_getElem (by omega), ha]
      have hgj : l[i + 1]? = some b := by rw [List.getElem?_eq_getElem hlt, hb]
      have t1 : ((i : Int) + 1).toNat = i + 1 := by omega
      rw [rising_drop cmp l hlt, ha, hb]
      have hc := hp a b
      repeat' (first | (with_reducible first | refine Cn (fun h => ?_) fun h => ?_ | refine And.intro ?_ ?_ | refine wR ?_ | exact wr _ _ | refine wa ?_ | apply awp_join | refine q hc ?_ | refine qd hc ?_ | refine qz hc ?_) | (with_reducible refine CallZ.z ?_) | simp -dsimp [go_sem, hgi, hgj, he, w1, w2, t1])
      all_goals first
        | omega
        | (intro h'; simp at h; omega)
        | (with_reducible refine Again.auto (i + 1) ?_ ?_ ?_)
      all_goals first
        | (simp -dsimp [go_sem]; done)
        | (refine ⟨.inr hlt, ?_⟩; simp at h; simp [h]; done)
        | (show l.length - (i + 1) < l.length - i; omega)
    · have hge : ¬ i + 1 < l.length := by simp at h; omega
      have : rising cmp (l.drop i) = true := by
        cases hd : l.drop i with
        | nil => rfl
        | cons a r =>
          cases r with
          | nil => rfl
          | cons b r =>
            have := congrArg List.length hd
            simp at this; omega
      simp -dsimp [go_sem, this]
theorem rising_string (g : Nat) (cmp : ByteArray → ByteArray → Int) (l : List ByteArray) (hl : (l.length : Int) ≤ 9223372036854775806) (he : enters Try.prog g = true) (hp : ∀ a b, PCall Try.prog G g [arg_string a, arg_string b] (iV (cmp a b))) :
    PCall Try.prog G 34 [.one (.v (.sl (l.map row_string))), .fn g [] []] (bV (rising cmp l)) := by
  refine pcallc mixed Try.func34 ac_value_rising_string ?_
  simp -dsimp [go_sem]
  refine awp_loop (fun i : Nat => ⟨[(0, .one (.v (.sl (l.map row_string)))), (1, .fn g [] []), (5, iV ((i : Int) + 1))], G, []⟩) (fun i => (i = 0 ∨ i < l.length) ∧ rising cmp l = rising cmp (l.drop i)) (fun i => l.length - i) 0 (weak_auto ?_) ⟨.inl rfl, rfl⟩ ?_
  · simp -dsimp [go_sem]
  · rintro i ⟨hi, hx⟩
    rw [hx]
    have w1 : i < l.length → IntKind.i64.wrap (i : Int) = i := fun _ => IntWalk.i64_in _ (by omega)
    have w2 : IntKind.i64.wrap ((i : Int) + 1 + 1) = (i : Int) + 1 + 1 := IntWalk.i64_in _ (by omega)
    simp -dsimp [go_sem]
    refine Cnd.intro (fun h => ?_) (fun h => ?_)
    · have hlt : i + 1 < l.length := by simp at h; omega
      have w1 := w1 (by omega)
      obtain ⟨a, ha⟩ : ∃ a, l[i] = a := ⟨_, rfl⟩
      obtain ⟨b, hb⟩ : ∃ b, l[i + 1] = b := ⟨_, rfl⟩
      have hgi : l[i]? = some a := by rw [List.getElem?_eq_getElem (by omega), ha]
      have hgj : l[i + 1]? = some b := by rw [List.getElem?_eq_getElem hlt, hb]
      have t1 : ((i : Int) + 1).toNat = i + 1 := by omega
      rw [rising_drop cmp l hlt, ha, hb]
      have hc := hp a b
      repeat' (first | (with_reducible first | refine Cn (fun h => ?_) fun h => ?_ | refine And.intro ?_ ?_ | refine wR ?_ | exact wr _ _ | refine wa ?_ | apply awp_join | refine q hc ?_ | refine qd hc ?_ | refine qz hc ?_) | (with_reducible refine CallZ.z ?_) | simp -dsimp [go_sem, hgi, hgj, he, w1, w2, t1])
      all_goals first
        | omega
        | (intro h'; simp at h; omega)
        | (with_reducible refine Again.auto (i + 1) ?_ ?_ ?_)
      all_goals first
        | (simp -dsimp [go_sem]; done)
        | (refine ⟨.inr hlt, ?_⟩; simp at h; simp [h]; done)
        | (show l.length - (i + 1) < l.length - i; omega)
    · have hge : ¬ i + 1 < l.length := by simp at h; omega
      have : rising cmp (l.drop i) = true := by
        cases hd : l.drop i with
        | nil => rfl
        | cons a r =>
          cases r with
          | nil => rfl
          | cons b r =>
            have := congrArg List.length hd
            simp at this; omega
      simp -dsimp [go_sem, this]
end Go.Proofs.Ytcfpphadlgbfdaa
