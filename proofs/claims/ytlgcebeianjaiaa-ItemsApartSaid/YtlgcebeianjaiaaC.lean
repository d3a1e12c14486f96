/- What the searches of a slice answer. -/
import Derived.Test.YtlgcebeianjaiaaB
import Derived.Test.YtlgcebeianjaiaaAeLoop
set_option linter.unusedVariables false
set_option linter.unusedSimpArgs false
set_option maxRecDepth 100000
set_option maxHeartbeats 8000000
namespace Go.Proofs.Ytlgcebeianjaiaa
open Go Go.RowKit Go.Proofs.AE
variable {G : Nat → AV}
abbrev strRows (l : List ByteArray) : List (List V) := l.map fun s => [V.lit (.string s)]
def firstIdx (p : ByteArray → Bool) : Nat → List ByteArray → Int
  | _, [] => -1
  | i, s :: l => if p s then (i : Int) else firstIdx p (i + 1) l
theorem firstIdx_drop (p : ByteArray → Bool) (l : List ByteArray) {i : Nat} (h : i < l.length) : firstIdx p i (l.drop i) = if p l[i] then (i : Int) else firstIdx p (i + 1) (l.drop (i + 1)) := by
  rw [List.drop_eq_getElem_cons h]; rfl
theorem indexFunc_c (g : Nat) (p : ByteArray → Bool) (l : List ByteArray) (hl : (l.length : Int) ≤ 9223372036854775807) (he : enters Try.prog g = true) (hp : ∀ s, PCall Try.prog G g [sV s] (bV (p s))) :
    PCall Try.prog G 46 [.one (.v (.sl (strRows l))), .fn g [] []] (iV (firstIdx p 0 l)) := by
  refine pcall mixed Try.func46 ok_slices_IndexFunc_string rs_slices_IndexFunc_string (by simp [Try.f46]) ?_
  unfold ac_slices_IndexFunc_string
  simp -dsimp [go_sem]
  refine awp_loop (fun i : Nat => ⟨[(0, .one (.v (.sl (strRows l)))), (1, .fn g [] []), (7, iV l.length), (8, iV i)], G, []⟩) (fun i => i ≤ l.length ∧ firstIdx p 0 l = firstIdx p i (l.drop i)) (fun i => l.length - i) 0 (weak_auto ?_) ⟨Nat.zero_le _, rfl⟩ ?_
  · simp -dsimp [go_sem]
  · rintro i ⟨hi, hx⟩
    rw [hx]
    simp -dsimp [go_sem]
    refine Cnd.intro (fun h => ?_) (fun h => ?_)
    · have hlt : i < l.length := by simpa using h
      have hgi : (strRows l)[i]? = some [V.lit (.string l[i])] := by simp [strRows, hlt]
      simp -dsimp [go_sem, hgi, he]
      refine CallZ.l ((hp l[i]).kf rfl ?_)
      simp -dsimp [go_sem]
      rw [firstIdx_drop p l hlt]
      refine Cnd.intro (fun h => ?_) (fun h => ?_)
      · simp -dsimp [go_sem, h]
      · simp -dsimp [go_sem]
        have h' : p l[i] = false := by simpa using h
        rw [h']
        refine Again.auto (i + 1) ?_ ⟨hlt, rfl⟩ (by omega)
        rw [IntWalk.i64_in _ (by omega)]
        simp -dsimp [go_sem]
    · have hge : ¬ i < l.length := by simpa using h
      have : i = l.length := by omega
      simp -dsimp [go_sem, firstIdx, this]
theorem firstIdx_ge (p : ByteArray → Bool) : ∀ (l : List ByteArray) (i : Nat), (decide (0 ≤ firstIdx p i l)) = l.any p
  | [], _ => by simp [firstIdx]
  | s :: l, i => by
    simp only [firstIdx, List.any_cons]
    by_cases h : p s = true
    · simp [h]
    · have h' : p s = false := by simpa using h
      simpa [h'] using firstIdx_ge p l (i + 1)
theorem containsFunc_c (g : Nat) (p : ByteArray → Bool) (l : List ByteArray) (hl : (l.length : Int) ≤ 9223372036854775807) (he : enters Try.prog g = true) (hp : ∀ s, PCall Try.prog G g [sV s] (bV (p s))) :
    PCall Try.prog G 33 [.one (.v (.sl (strRows l))), .fn g [] []] (bV (l.any p)) := by
  refine pcall mixed Try.func33 ok_slices_ContainsFunc_string rs_slices_ContainsFunc_string (by simp [Try.f33]) ?_
  unfold ac_slices_ContainsFunc_string
  simp -dsimp [go_sem]
  refine CallZ.l ((indexFunc_c g p l hl he hp).kf rfl ?_)
  rw [← firstIdx_ge p l 0]
  simp -dsimp [go_sem]
theorem longText_c (s : ByteArray) : PCall Try.prog G 34 [sV s] (bV (decide (20 < (s.size : Int)))) := by
  refine pcall mixed Try.func34 ok_client_CheckReply_1 rs_client_CheckReply_1 (by simp [Try.f34]) ?_
  unfold ac_client_CheckReply_1
  simp -dsimp [go_sem]
/-- What CheckReply answers. -/
def checkReply (code : Int) (text : ByteArray) (n : Int) (l : List ByteArray) : Int :=
  if decide (code < 0) then 3 else if decide (13 < code) then 3 else if decide (20 < (text.size : Int)) then 1 else if decide (20 < (l.length : Int)) then 1
  else if l.any (fun s => decide (20 < (s.size : Int))) then 1 else if decide (n < -1099511627776) then 2 else if decide (1099511627776 < n) then 2 else 0
theorem checkReply_c (code : Int) (text : ByteArray) (n : Int) (l : List ByteArray) : PCall Try.prog G 16 [.agg [iC code, sC text, iC n, .v (.sl (strRows l))]] (iV (checkReply code text n l)) := by
  refine pcall mixed Try.func16 ok_client_CheckReply rs_client_CheckReply (by simp [Try.f16]) ?_
  unfold ac_client_CheckReply
  repeat' (first
    | (with_reducible refine Cnd.intro (fun h => ?_) (fun h => ?_))
    | (with_reducible refine And.intro ?_ ?_)
    | (with_reducible refine Wk.refl ?_)
    | (with_reducible exact Weak.refl _ _)
    | (with_reducible refine weak_auto ?_)
    | (with_reducible apply awp_join)
    | (with_reducible refine CallZ.l (PCall.kf (containsFunc_c _ _ _ (by simp_all <;> omega) en34 longText_c) ?_ ?_))
    | (with_reducible refine PCall.kf (containsFunc_c _ _ _ (by simp_all <;> omega) en34 longText_c) ?_ ?_)
    | (with_reducible refine PCall.df (containsFunc_c _ _ _ (by simp_all <;> omega) en34 longText_c) ?_ ?_)
    | (with_reducible refine CallZ.l (PCall.kn (containsFunc_c _ _ _ (by simp_all <;> omega) en34 longText_c) (by with_unfolding_all rfl) (by with_unfolding_all rfl) ?_))
    | (with_reducible refine PCall.kn (containsFunc_c _ _ _ (by simp_all <;> omega) en34 longText_c) (by with_unfolding_all rfl) (by with_unfolding_all rfl) ?_)
    | (with_reducible refine PCall.dn (containsFunc_c _ _ _ (by simp_all <;> omega) en34 longText_c) (by with_unfolding_all rfl) (by with_unfolding_all rfl) ?_)
    | ((with_reducible refine PCall.dz (containsFunc_c _ _ _ (by simp_all <;> omega) en34 longText_c) (by with_unfolding_all rfl) (by with_unfolding_all rfl) ?_); rotate_right; rintro zh1 zq1; (try simp -dsimp [go_sem] at zq1); obtain ⟨rfl⟩ := zq1)
    | (with_reducible refine CallZ.z ?_)
    | (simp -dsimp [go_sem]))
  all_goals ((try simp only [Bool.not_true, Bool.not_false] at *); simp only [checkReply, *]; rfl)
theorem checkReply0_c (code : Int) (text : ByteArray) (n : Int) : PCall Try.prog G 16 [.agg [iC code, sC text, iC n, .nil]] (iV (checkReply code text n [])) := (checkReply_c code text n []).at (by simp [go_sem])
theorem replyBad_c (n m : Int) (hn : i64 n) (hm : i64 m) : PCall Try.prog G 3 [iV n, iV m] (bV true) := by
  refine pcall mixed Try.func3 ok_rostrumkeep_ReplyBad rs_rostrumkeep_ReplyBad (by simp [Try.f3]) ?_
  unfold ac_rostrumkeep_ReplyBad
  have hk := pk_range (n := n) (m := 30) (by omega)
  have hj := pk_range (n := m) (m := 3) (by omega)
  have e0 : ((⟨#[]⟩ : ByteArray).size : Int) = 0 := rfl
  have f1 : checkReply (pk n 30) ⟨#[]⟩ 0 [] = if 13 < pk n 30 then 3 else 0 := by
    have h0 : ¬ pk n 30 < 0 := by omega
    by_cases h1 : 13 < pk n 30 <;> simp [checkReply, h0, h1, e0]
  have f2 : checkReply 0 ⟨Array.replicate (pk n 30).toNat 0⟩ 0 [] = if 20 < pk n 30 then 1 else 0 := by
    simp only [checkReply, zsize hk.1]
    by_cases h1 : 20 < pk n 30 <;> simp [h1]
  have f3 : checkReply 0 ⟨#[]⟩ 0 (List.replicate (pk n 30).toNat ⟨#[]⟩) = if 20 < pk n 30 then 1 else 0 := by
    have h0 : (((List.replicate (pk n 30).toNat (⟨#[]⟩ : ByteArray)).length : Nat) : Int) = pk n 30 := by simp; omega
    have ha : (List.replicate (pk n 30).toNat (⟨#[]⟩ : ByteArray)).any (fun s => decide (20 < (s.size : Int))) = false := by
      rw [List.any_eq_false]
      intro x hx
      obtain ⟨_, rfl⟩ := List.mem_replicate.1 hx
      simp [e0]
    simp only [checkReply, h0, ha]
    by_cases h1 : 20 < pk n 30 <;> simp [h1, e0]
  have f4 : checkReply 0 ⟨#[]⟩ (IntKind.i64.wrap (IntKind.i64.wrap (1099511627776 + pk m 3) - 1)) [] = if pk m 3 = 2 then 2 else 0 := by
    rw [IntWalk.i64_in (1099511627776 + pk m 3) (by omega), IntWalk.i64_in _ (by omega)]
    have h2 : ¬ 1099511627776 + pk m 3 - 1 < -1099511627776 := by omega
    by_cases h1 : pk m 3 = 2
    · simp [checkReply, h1, e0]
    · have h3 : ¬ 1099511627776 < 1099511627776 + pk m 3 - 1 := by omega
      simp [checkReply, h1, h2, h3, e0]
  repeat' (first
    | (with_reducible refine Cnd.intro (fun h => ?_) (fun h => ?_))
    | (with_reducible refine And.intro ?_ ?_)
    | (with_reducible refine Wk.refl ?_)
    | (with_reducible exact Weak.refl _ _)
    | (with_reducible refine weak_auto ?_)
    | (with_reducible apply awp_join)
    | (with_reducible refine CallZ.l (PCall.kf (picked_c _ _ (by assumption) (by simp)) ?_ ?_))
    | (with_reducible refine PCall.kf (picked_c _ _ (by assumption) (by simp)) ?_ ?_)
    | (with_reducible refine PCall.df (picked_c _ _ (by assumption) (by simp)) ?_ ?_)
    | (with_reducible refine CallZ.l (PCall.kf (checkReply0_c _ _ _) ?_ ?_))
    | (with_reducible refine PCall.kf (checkReply0_c _ _ _) ?_ ?_)
    | (with_reducible refine PCall.df (checkReply0_c _ _ _) ?_ ?_)
    | (with_reducible refine PCall.kb (checkReply_c 0 ⟨#[]⟩ 0 (List.replicate (pk n 30).toNat ⟨#[]⟩)) ?_ ?_ ?_)
    | (with_reducible refine CallZ.l (PCall.kn (picked_c _ _ (by assumption) (by simp)) (by with_unfolding_all rfl) (by with_unfolding_all rfl) ?_))
    | (with_reducible refine PCall.kn (picked_c _ _ (by assumption) (by simp)) (by with_unfolding_all rfl) (by with_unfolding_all rfl) ?_)
    | (with_reducible refine PCall.dn (picked_c _ _ (by assumption) (by simp)) (by with_unfolding_all rfl) (by with_unfolding_all rfl) ?_)
    | (with_reducible refine CallZ.l (PCall.kn (checkReply0_c _ _ _) (by with_unfolding_all rfl) (by with_unfolding_all rfl) ?_))
    | (with_reducible refine PCall.kn (checkReply0_c _ _ _) (by with_unfolding_all rfl) (by with_unfolding_all rfl) ?_)
    | (with_reducible refine PCall.dn (checkReply0_c _ _ _) (by with_unfolding_all rfl) (by with_unfolding_all rfl) ?_)
    | ((with_reducible refine PCall.dz (picked_c _ _ (by assumption) (by simp)) (by with_unfolding_all rfl) (by with_unfolding_all rfl) ?_); rotate_right; rintro zh1 zq1; (try simp -dsimp [go_sem] at zq1); obtain ⟨rfl⟩ := zq1)
    | ((with_reducible refine PCall.dz (checkReply0_c _ _ _) (by with_unfolding_all rfl) (by with_unfolding_all rfl) ?_); rotate_right; rintro zh1 zq1; (try simp -dsimp [go_sem] at zq1); obtain ⟨rfl⟩ := zq1)
    | (with_reducible refine CallZ.z ?_)
    | (simp -dsimp [go_sem, bytesOf_zero]))
  all_goals (try omega)
  all_goals simp only [f1, f2, f3, f4] at *
  all_goals (by_cases a1 : 13 < pk n 30 <;> by_cases a2 : 20 < pk n 30 <;> by_cases a4 : pk m 3 = 2 <;> first | omega | (simp_all; done) | (simp_all; omega))
end Go.Proofs.Ytlgcebeianjaiaa
