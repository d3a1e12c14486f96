/- That Do leaves a value that may be, or nothing; and what the keep's helpers answer. -/
import Derived.Test.YtcfpphadlgbfdaaJ13
import Derived.Test.YtcfpphadlgbfdaaJ12b
import Derived.Test.YtcfpphadlgbfdaaE
import Derived.Test.YtcfpphadlgbfdaaW
set_option linter.unusedVariables false
set_option linter.unusedSimpArgs false
set_option maxRecDepth 100000
set_option maxHeartbeats 8000000
namespace Go.Proofs.Ytcfpphadlgbfdaa
open Go Go.RowKit Go.Proofs.AE
variable {G : Nat → AV}
theorem DoEnd_vk {v : Val} {q : Val × Rep} (hv : Vk v) (hq : q.2.code = 0 → OkB q.1) : (DoEnd v q).2.2 = 0 ∧ Vk (DoEnd v q).1 := by
  unfold DoEnd
  by_cases h : q.2.code ≠ 0
  · rw [if_pos h]; exact ⟨rfl, hv⟩
  · rw [if_neg h]
    have h0 : q.2.code = 0 := Classical.not_not.1 h
    by_cases h2 : 3 ≤ q.1.kind ∧ q.1.els = 0
    · rw [if_pos h2]; exact ⟨rfl, .inr rfl⟩
    · rw [if_neg h2]; exact ⟨rfl, .inl ((hq h0).ok h2)⟩
theorem kindOf_zero {k : Int} (h1 : 1 ≤ k) (h2 : k ≤ 16) (h : k ≠ 1) : kindOfC k ≠ 0 := by
  unfold kindOfC
  repeat' split
  all_goals omega
theorem DoV_vk {v : Val} {c : Cmd} (h : Vk v) (hc : checkC c = 0) (hk : c.kind ≤ 18) : (DoV v c).2.2 = 0 ∧ Vk (DoV v c).1 := by
  have hk1 := checkC_kind hc
  rcases h with h | h
  · have hv := checkV_iff.2 h
    by_cases hm : (kindOfC c.kind ≠ 0 ∧ kindOfC c.kind ≠ v.kind) ∨ (17 ≤ c.kind ∧ v.kind < 3)
    · rw [DoV_type hv hc hk hm]; exact ⟨rfl, .inl h⟩
    · rw [DoV_go hv hc hk hm]
      refine DoEnd_vk (.inl h) fun h0 => ?_
      by_cases h17 : 17 ≤ c.kind
      · have hk2 : c.kind = 17 ∨ c.kind = 18 := by omega
        rcases hk2 with e | e <;> (unfold doV; simp [e]; exact h.b)
      · refine doV_ok h.b hc (by omega) ?_ h0
        by_cases e : c.kind = 1
        · exact .inl e
        · have := kindOf_zero hk1 (by omega) e
          refine .inr ?_
          simp only [not_or, not_and, Classical.not_not] at hm
          exact hm.1 this
  · subst h
    rw [DoV_zero hc hk]
    cases hmk : makesC c.kind with
    | false => exact ⟨rfl, .inr rfl⟩
    | true =>
      simp only [if_true]
      have hk2 : c.kind ≤ 14 := by
        unfold makesC at hmk
        simp at hmk
        omega
      refine DoEnd_vk (.inr rfl) fun h0 => ?_
      by_cases e : c.kind = 1
      · have hd : doV ⟨kindOfC c.kind, ⟨#[]⟩, 0, [], [], []⟩ c = doV ⟨1, ⟨#[]⟩, 0, [], [], []⟩ c := by unfold doV; rw [if_pos e, if_pos e]
        rw [hd] at h0 ⊢
        exact doV_ok (fresh_b (by omega) (by omega)) hc (by omega) (.inl e) h0
      · have hne := kindOf_zero hk1 (by omega) e
        have hr : 1 ≤ kindOfC c.kind ∧ kindOfC c.kind ≤ 6 := by
          unfold kindOfC at hne ⊢
          repeat' split
          all_goals simp_all
        exact doV_ok (fresh_b hr.1 hr.2) hc (by omega) (.inr rfl) h0
/-! ### the keep's helpers -/
structure Raw where
  kind : Int
  key : Int
  field : Int
  n : Int
  text : ByteArray
def Raw.row (r : Raw) : List V := [.lit (.int .i64 r.kind), .lit (.int .i64 r.key), .lit (.int .i64 r.field), .lit (.int .i64 r.n), .lit (.string r.text)]
structure Raw.Ok (r : Raw) : Prop where
  kind : i64 r.kind
  key : i64 r.key
  field : i64 r.field
  n : i64 r.n
def cmdK (k : Int) (r : Raw) : Cmd :=
  ⟨k, if k = 22 then ⟨#[]⟩ else someS r.key, if k = 4 ∨ k = 5 ∨ k = 6 then someS r.field else ⟨#[]⟩,
   if k = 1 ∨ k = 4 ∨ k = 7 ∨ k = 8 ∨ k = 11 ∨ k = 12 ∨ k = 13 ∨ k = 14 ∨ k = 15 ∨ k = 16 then cmdText r.n r.text else ⟨#[]⟩,
   if k = 3 then r.n.tmod 1073741824 else if k = 20 then pk r.n 60 else if k = 14 then pk r.n 12 - 6 else 0⟩
def cmdR (r : Raw) : Cmd := cmdK (1 + pk r.kind 22) r
theorem cmdR_ok {r : Raw} (h : r.Ok) : checkC (cmdR r) = 0 := cmd_ok r.kind r.key r.field r.n r.text h.n _ _ _ _ _ rfl
theorem cmdR_kind (r : Raw) : 1 ≤ (cmdR r).kind ∧ (cmdR r).kind ≤ 22 := by
  have := pk_range (n := r.kind) (m := 22) (by omega)
  show 1 ≤ 1 + pk r.kind 22 ∧ 1 + pk r.kind 22 ≤ 22
  omega
theorem commandR_c (r : Raw) (h : r.Ok) : PCall Try.prog G 6 [.agg [iC r.kind, iC r.key, iC r.field, iC r.n, sC r.text]] (.agg (cmdR r).c) := command_c r.kind r.key r.field r.n r.text h.kind h.key h.field h.n
def makerK (kind : Int) : Int := if pk kind 6 = 0 then 1 else if pk kind 6 = 1 then 3 else if pk kind 6 = 2 then 4 else if pk kind 6 = 3 then 7 else if pk kind 6 = 4 then 11 else 14
def makerR (kind : Int) (r : Raw) : Raw := { r with kind := makerK kind - 1 }
def maker (kind : Int) (r : Raw) : Cmd := cmdR (makerR kind r)
theorem makerK_mem (kind : Int) : makerK kind = 1 ∨ makerK kind = 3 ∨ makerK kind = 4 ∨ makerK kind = 7 ∨ makerK kind = 11 ∨ makerK kind = 14 := by
  unfold makerK
  repeat' split
  all_goals omega
theorem pk_small {k m : Int} (h0 : 0 ≤ k) (h1 : k < m) : pk k m = k := by
  unfold pk
  rw [if_neg (by omega), Int.tmod_eq_emod_of_nonneg h0, Int.emod_eq_of_lt h0 h1]
theorem makerR_ok {kind : Int} {r : Raw} (h : r.Ok) : (makerR kind r).Ok := by
  have := makerK_mem kind
  refine ⟨?_, h.key, h.field, h.n⟩
  show i64 (makerK kind - 1)
  unfold i64; omega
theorem maker_eq (kind : Int) (r : Raw) : maker kind r = cmdK (makerK kind) r := by
  unfold maker cmdR
  have := makerK_mem kind
  rw [show pk (makerR kind r).kind 22 = makerK kind - 1 from pk_small (by show 0 ≤ makerK kind - 1; omega) (by show makerK kind - 1 < 22; omega), show 1 + (makerK kind - 1) = makerK kind by omega]
  rfl
def stepV (v : Val) (c : Cmd) : Val := if (DoV v c).2.2 = 0 then (DoV v c).1 else v
def valueV (kind : Int) (l : List Raw) : Val := (l.take 24).foldl (fun v r => stepV v (maker kind r)) zeroV
theorem maker_ok (kind : Int) {r : Raw} (h : r.Ok) : checkC (maker kind r) = 0 ∧ (maker kind r).kind = makerK kind := by
  refine ⟨cmdR_ok (makerR_ok h), ?_⟩
  rw [maker_eq]; rfl
theorem step_vk {v : Val} {c : Cmd} (h : Vk v) (hc : checkC c = 0) (hk : c.kind ≤ 18) : Vk (stepV v c) ∧ stepV v c = (DoV v c).1 := by
  obtain ⟨h1, h2⟩ := DoV_vk h hc hk
  unfold stepV
  rw [if_pos h1]
  exact ⟨h2, rfl⟩
theorem fold_vk (kind : Int) : ∀ (l : List Raw) (v : Val), (∀ r ∈ l, r.Ok) → Vk v → Vk (l.foldl (fun v r => stepV v (maker kind r)) v)
  | [], v, _, h => h
  | r :: l, v, hl, h => by
    have hm := makerK_mem kind
    obtain ⟨m1, m2⟩ := maker_ok kind (hl r (List.mem_cons_self ..))
    exact fold_vk kind l _ (fun x hx => hl x (List.mem_cons_of_mem _ hx)) (step_vk h m1 (by omega)).1
theorem valueV_vk (kind : Int) (l : List Raw) (hl : ∀ r ∈ l, r.Ok) : Vk (valueV kind l) := fold_vk kind _ _ (fun r hr => hl r (List.mem_of_mem_take hr)) (.inr rfl)
end Go.Proofs.Ytcfpphadlgbfdaa
