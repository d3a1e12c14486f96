/- What the searches of a slice answer. -/
import Derived.Test.YtcfpphadlgbfdaaB
import Derived.Test.YtcfpphadlgbfdaaAeLoop
set_option linter.unusedVariables false
set_option linter.unusedSimpArgs false
set_option maxRecDepth 100000
set_option maxHeartbeats 8000000
namespace Go.Proofs.Ytcfpphadlgbfdaa
open Go Go.RowKit Go.Proofs.AE
variable {G : Nat → AV}
abbrev strRows (l : List ByteArray) : List (List V) := l.map fun s => [V.lit (.string s)]
def firstIdx (p : ByteArray → Bool) : Nat → List ByteArray → Int
  | _, [] => -1
  | i, s :: l => if p s then (i : Int) else firstIdx p (i + 1) l
theorem firstIdx_drop (p : ByteArray → Bool) (l : List ByteArray) {i : Nat} (h : i < l.length) : firstIdx p i (l.drop i) = if p l[i] then (i : Int) else firstIdx p (i + 1) (l.drop (i + 1)) := by
  rw [List.drop_eq_getElem_cons h]; rfl
theorem indexFunc_c (g : Nat) (p : ByteArray → Bool) (l : List ByteArray) (hl : (l.length : Int) ≤ 9223372036854775807) (he : enters Try.prog g = true) (hp : ∀ s, PCall Try.prog G g [sV s] (bV (p s))) :
    PCall Try.prog G 46 [.one (.v (.sl (strRows l))), .fn g [] []] (iV (firstIdx p 0 l)) := by
  refine pcallc mixed Try.func46 ac_slices_IndexFunc_string ?_
  simp -dsimp [go_sem]
  refine awp_loop (fun i : Nat => ⟨[(0, .one (.v (.sl (strRows l)))), (1, .fn g [] []), (7, iV l.length), (8, iV i)], G, []⟩) (fun i => i ≤ l.length ∧ firstIdx p 0 l = firstIdx p i (l.drop i)) (fun i => l.length - i) 0 (weak_auto ?_) ⟨Nat.zero_le _, rfl⟩ ?_
  · simp -dsimp [go_sem]
  · rintro i ⟨hi, hx⟩
    rw [hx]
    simp -dsimp [go_sem]
    refine Cnd.intro (fun h => ?_) (fun h => ?_)
    · have hlt : i < l.length := by simpa using h
      have hgi : (strRows l)[i]? = some [V.lit (.string l[i])] := by simp [strRows, hlt]
      simp -dsimp [go_sem, hgi, he]
      refine CallZ.l ((hp l[i]).kf rfl ?_)
      simp -dsimp [go_sem]
      rw [firstIdx_drop p l hlt]
      refine Cnd.intro (fun h => ?_) (fun h => ?_)
      · simp -dsimp [go_sem, h]
      · simp -dsimp [go_sem]
        have h' : p l[i] = false := by simpa using h
        rw [h']
        refine Again.auto (i + 1) ?_ ⟨hlt, rfl⟩ (by omega)
        rw [IntWalk.i64_in _ (by omega)]
        simp -dsimp [go_sem]
    · have hge : ¬ i < l.length := by simpa using h
      have : i = l.length := by omega
      simp -dsimp [go_sem, firstIdx, this]
theorem firstIdx_ge (p : ByteArray → Bool) : ∀ (l : List ByteArray) (i : Nat), (decide (0 ≤ firstIdx p i l)) = l.any p
  | [], _ => by simp [firstIdx]
  | s :: l, i => by
    simp only [firstIdx, List.any_cons]
    by_cases h : p s = true
    · simp [h]
    · have h' : p s = false := by simpa using h
      simpa [h'] using firstIdx_ge p l (i + 1)
theorem containsFunc_c (g : Nat) (p : ByteArray → Bool) (l : List ByteArray) (hl : (l.length : Int) ≤ 9223372036854775807) (he : enters Try.prog g = true) (hp : ∀ s, PCall Try.prog G g [sV s] (bV (p s))) :
    PCall Try.prog G 21 [.one (.v (.sl (strRows l))), .fn g [] []] (bV (l.any p)) := by
  refine pcallc mixed Try.func21 ac_slices_ContainsFunc_string ?_
  simp -dsimp [go_sem]
  refine CallZ.l ((indexFunc_c g p l hl he hp).kf rfl ?_)
  rw [← firstIdx_ge p l 0]
  simp -dsimp [go_sem]
/-- What CheckReply answers. -/
def checkReply (code : Int) (text : ByteArray) (n : Int) (l : List ByteArray) : Int :=
  if decide (code < 0) then 3 else if decide (13 < code) then 3 else if decide (20 < (text.size : Int)) then 1 else if decide (20 < (l.length : Int)) then 1
  else if l.any (fun s => decide (20 < (s.size : Int))) then 1 else if decide (n < -1099511627776) then 2 else if decide (1099511627776 < n) then 2 else 0
end Go.Proofs.Ytcfpphadlgbfdaa
