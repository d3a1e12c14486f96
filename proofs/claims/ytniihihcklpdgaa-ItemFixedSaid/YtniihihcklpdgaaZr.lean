/- Items out of bytes: what the reader's functions answer. -/
import Derived.Test.YtniihihcklpdgaaYr
set_option linter.unusedVariables false
set_option linter.unusedSimpArgs false
set_option maxRecDepth 100000
set_option maxHeartbeats 8000000
namespace Go.Proofs.Ytniihihcklpdgaa
open Go Go.RowKit Go.Proofs.AE
variable {G : Nat → AV}
abbrev rHp (r : Rd) : Hp := [some (.box 81 [.v (.sl (bR r.rest)), .v (.lit (.bool r.short))])]
theorem bR_take (l : List UInt8) (n : Nat) : (bR l).take n = bR (l.take n) := by simp [bR, List.map_take]
theorem bR_drop (l : List UInt8) (n : Nat) : (bR l).drop n = bR (l.drop n) := by simp [bR, List.map_drop]
theorem take_c (r : Rd) (n : Int) (hn : 0 ≤ n) : DetCall Try.prog G 52 1 (rHp r) [.one (.ptr 0 0), iV n] (.one (.v (.sl (bR (takeR r n.toNat).1)))) (rHp (takeR r n.toNat).2) := by
  refine gcall mixed Try.func52 ok_wire_reader_take rs_wire_reader_take (by simp [Try.f52]) ?_
  unfold ac_wire_reader_take
  have h1 := bR_len r.rest
  have h2 := bR_ul r.rest
  have h3 := bR_take r.rest n.toNat
  have h4 := bR_drop r.rest n.toNat
  unfold rHp
  by_cases hs : r.short = true
  · have ht : takeR r n.toNat = ([], ⟨r.rest, true⟩) := by unfold takeR; rw [if_pos (.inl hs)]
    rw [ht, hs]
    repeat' (first
    | (with_reducible refine Cnd.intro (fun h => ?_) (fun h => ?_))
    | (with_reducible refine And.intro ?_ ?_)
    | (with_reducible refine Wk.refl ?_)
    | (with_reducible exact Weak.refl _ _)
    | (with_reducible refine weak_auto ?_)
    | (with_reducible apply awp_join)
    | (with_reducible refine CallZ.z ?_)
    | (simp -dsimp [go_sem, bR]))
  · have hs' : r.short = false := by simpa using hs
    rw [hs']
    by_cases hl : (r.rest.length : Int) < n
    · have ht : takeR r n.toNat = ([], ⟨r.rest, true⟩) := by unfold takeR; rw [if_pos (.inr (by omega))]
      rw [ht]
      repeat' (first
    | (with_reducible refine Cnd.intro (fun h => ?_) (fun h => ?_))
    | (with_reducible refine And.intro ?_ ?_)
    | (with_reducible refine Wk.refl ?_)
    | (with_reducible exact Weak.refl _ _)
    | (with_reducible refine weak_auto ?_)
    | (with_reducible apply awp_join)
    | (with_reducible refine CallZ.z ?_)
    | (simp -dsimp [go_sem, h1, hl]))
      all_goals simp [bR]
    · have ht : takeR r n.toNat = (r.rest.take n.toNat, ⟨r.rest.drop n.toNat, false⟩) := by unfold takeR; rw [if_neg (by simp [hs']; omega)]
      rw [ht]
      have h5 : (bR r.rest).take r.rest.length = bR r.rest := by rw [bR_take, List.take_length]
      repeat' (first
    | (with_reducible refine Cnd.intro (fun h => ?_) (fun h => ?_))
    | (with_reducible refine And.intro ?_ ?_)
    | (with_reducible refine Wk.refl ?_)
    | (with_reducible exact Weak.refl _ _)
    | (with_reducible refine weak_auto ?_)
    | (with_reducible apply awp_join)
    | (with_reducible refine CallZ.z ?_)
    | (simp -dsimp [go_sem, h1, hl, h2, h3, h4, h5]))
      all_goals first | omega | skip
theorem shl_or (u : Nat) (c : UInt8) (hu : u < 18446744073709551616) : bitsV .or .u64 (IntKind.u64.wrap ((u : Int) * 256)) (c.toNat : Int) = ((u : Int) * 256 + c.toNat) % 18446744073709551616 := by
  have hc := c.toNat_lt
  have w64 : ∀ n : Nat, n < 18446744073709551616 → IntKind.u64.wrap (n : Int) = n := by
    intro n hn
    simp [IntKind.wrap, IntKind.bits, IntKind.signed]
    omega
  have h1 : IntKind.u64.wrap ((u : Int) * 256) = ((u * 256 % 18446744073709551616 : Nat) : Int) := by
    simp [IntKind.wrap, IntKind.bits, IntKind.signed]
  rw [h1]
  obtain ⟨v, hv⟩ : ∃ v, u * 256 % 18446744073709551616 = v * 256 := ⟨u * 256 % 18446744073709551616 / 256, by omega⟩
  have hv2 : v * 256 < 18446744073709551616 := by omega
  rw [hv, show ((u : Int) * 256 + c.toNat) % 18446744073709551616 = ((v * 256 + c.toNat : Nat) : Int) by omega]
  unfold bitsV
  simp only [IntKind.bits]
  have e1 : (BitVec.ofInt 64 ((v * 256 : Nat) : Int)) = BitVec.ofNat 64 (v * 256) := rfl
  have e2 : (BitVec.ofInt 64 (c.toNat : Int)) = BitVec.ofNat 64 c.toNat := rfl
  rw [e1, e2]
  change IntKind.u64.wrap (((BitVec.ofNat 64 (v * 256) ||| BitVec.ofNat 64 c.toNat : BitVec 64).toNat : Nat) : Int) = _
  simp only [BitVec.toNat_or, BitVec.toNat_ofNat]
  rw [Nat.mod_eq_of_lt (by omega), Nat.mod_eq_of_lt (by omega)]
  have e3 : v * 256 ||| c.toNat = v * 256 + c.toNat := by
    have := Nat.shiftLeft_add_eq_or_of_lt (i := 8) (b := c.toNat) (by omega) v
    rw [Nat.shiftLeft_eq] at this
    exact this.symm
  rw [e3, w64 _ (by omega)]
theorem wrap_back (u : Nat) : IntKind.i64.wrap (IntKind.u64.wrap ((u : Int) - 4611686018427387904)) = IntKind.i64.wrap ((u : Int) - 4611686018427387904) := by
  simp [IntKind.wrap, IntKind.bits, IntKind.signed]
theorem uOf_lt (l : List UInt8) : uOf l < 18446744073709551616 := by
  unfold uOf
  rcases l.eq_nil_or_concat with rfl | ⟨a, b, rfl⟩
  · simp
  · rw [List.concat_eq_append, List.foldl_append]
    simp only [List.foldl_cons, List.foldl_nil]
    omega
theorem uOf_snoc (l : List UInt8) (c : UInt8) : uOf (l ++ [c]) = (uOf l * 256 + c.toNat) % 18446744073709551616 := by
  unfold uOf
  rw [List.foldl_append]
  rfl
theorem takeR_len (r : Rd) (n : Nat) : (takeR r n).1.length ≤ n := by
  unfold takeR
  split
  · simp
  · simp; omega
theorem rnumber_c (r : Rd) : DetCall Try.prog G 46 1 (rHp r) [.one (.ptr 0 0)] (iV (numR r).1) (rHp (numR r).2) := by
  refine gcall mixed Try.func46 ok_wire_reader_number rs_wire_reader_number (by simp [Try.f46]) ?_
  unfold ac_wire_reader_number
  have ht := take_c (G := G) r 8 (by omega)
  have hl := takeR_len r 8
  unfold numR
  simp only [show (8 : Int).toNat = 8 from rfl] at ht
  generalize hq : takeR r 8 = q at *
  obtain ⟨b, r'⟩ := q
  simp only at ht hl ⊢
  have h1 := bR_len b
  unfold rHp
  repeat' (first
    | (with_reducible refine Cnd.intro (fun h => ?_) (fun h => ?_))
    | (with_reducible refine And.intro ?_ ?_)
    | (with_reducible refine Wk.refl ?_)
    | (with_reducible exact Weak.refl _ _)
    | (with_reducible refine weak_auto ?_)
    | (with_reducible apply awp_join)
    | ((with_reducible refine CallZ.l (DetCall.kg (ht) (by with_unfolding_all rfl) (by with_unfolding_all rfl) (by with_unfolding_all rfl) ?_)); rotate_right; rintro zr1 zh1 zq1 zq2; (try simp -dsimp [go_sem] at zq1 zq2); obtain ⟨rfl⟩ := zq1; obtain ⟨rfl⟩ := zq2)
    | ((with_reducible refine DetCall.kg (ht) (by with_unfolding_all rfl) (by with_unfolding_all rfl) (by with_unfolding_all rfl) ?_); rotate_right; rintro zr1 zh1 zq1 zq2; (try simp -dsimp [go_sem] at zq1 zq2); obtain ⟨rfl⟩ := zq1; obtain ⟨rfl⟩ := zq2)
    | ((with_reducible refine DetCall.dg (ht) (by with_unfolding_all rfl) (by with_unfolding_all rfl) (by with_unfolding_all rfl) ?_); rotate_right; rintro zr1 zh1 zq1 zq2; (try simp -dsimp [go_sem] at zq1 zq2); obtain ⟨rfl⟩ := zq1; obtain ⟨rfl⟩ := zq2)
    | (with_reducible refine CallZ.z ?_)
    | (simp -dsimp [go_sem, h1]))
  refine awp_loop (fun i : Nat => ⟨[(3, .one (.v (.lit (.int .u64 (uOf (b.take i)))))), (7, .one (.v (.sl (bR b)))), (8, iV b.length), (9, iV i)], G, rHp r'⟩) (fun i => i ≤ b.length) (fun i => b.length - i) 0 (weak_auto ?_) (Nat.zero_le _) ?_
  · simp -dsimp [go_sem]
    rfl
  · intro i hi
    unfold rHp
    simp -dsimp [go_sem]
    refine Cnd.intro (fun h => ?_) (fun h => ?_)
    · have hlt : i < b.length := by simpa using h
      have hgi : (bR b)[i]? = some [.lit (.int .u8 (b[i].toNat : Int))] := by simp [bR, hlt]
      have e1 : IntKind.i64.wrap ((i : Int) + 1) = i + 1 := IntWalk.i64_in _ (by omega)
      have e2 := shl_or (uOf (b.take i)) b[i] (uOf_lt _)
      have e3 : IntKind.u64.wrap (b[i].toNat : Int) = b[i].toNat := by
        have := b[i].toNat_lt
        simp [IntKind.wrap, IntKind.bits, IntKind.signed]
        omega
      have e4 : uOf (b.take (i + 1)) = (uOf (b.take i) * 256 + b[i].toNat) % 18446744073709551616 := by rw [List.take_succ_eq_append_getElem hlt, uOf_snoc]
      repeat' (first
    | (with_reducible refine Cnd.intro (fun h => ?_) (fun h => ?_))
    | (with_reducible refine And.intro ?_ ?_)
    | (with_reducible refine Wk.refl ?_)
    | (with_reducible exact Weak.refl _ _)
    | (with_reducible refine weak_auto ?_)
    | (with_reducible apply awp_join)
    | (with_reducible refine CallZ.z ?_)
    | (simp -dsimp [go_sem, hgi, e1, e2, e3]))
      all_goals first | omega | (with_reducible refine Again.auto (i + 1) ?_ ?_ ?_) | skip
      · simp -dsimp [go_sem, e4, e2]
      · exact hlt
      · show b.length - (i + 1) < b.length - i
        omega
    · have hij : i = b.length := by simp at h; omega
      subst hij
      have e5 : b.take b.length = b := List.take_length
      have e6 : IntKind.i64.wrap (IntKind.u64.wrap ((uOf b : Int) - 4611686018427387904)) = numOf b := wrap_back _
      rw [e5]
      repeat' (first
    | (with_reducible refine Cnd.intro (fun h => ?_) (fun h => ?_))
    | (with_reducible refine And.intro ?_ ?_)
    | (with_reducible refine Wk.refl ?_)
    | (with_reducible exact Weak.refl _ _)
    | (with_reducible refine weak_auto ?_)
    | (with_reducible apply awp_join)
    | (with_reducible refine CallZ.z ?_)
    | (simp -dsimp [go_sem, e6]))
theorem rsmall_c (r : Rd) : DetCall Try.prog G 47 1 (rHp r) [.one (.ptr 0 0)] (iV (smallR r).1) (rHp (smallR r).2) := by
  refine gcall mixed Try.func47 ok_wire_reader_small rs_wire_reader_small (by simp [Try.f47]) ?_
  unfold ac_wire_reader_small
  have ht := take_c (G := G) r 1 (by omega)
  unfold smallR
  simp only [show (1 : Int).toNat = 1 from rfl] at ht
  generalize hq : takeR r 1 = q at *
  obtain ⟨b, r'⟩ := q
  simp only at ht ⊢
  have h1 := bR_len b
  unfold rHp
  repeat' (first
    | (with_reducible refine Cnd.intro (fun h => ?_) (fun h => ?_))
    | (with_reducible refine And.intro ?_ ?_)
    | (with_reducible refine Wk.refl ?_)
    | (with_reducible exact Weak.refl _ _)
    | (with_reducible refine weak_auto ?_)
    | (with_reducible apply awp_join)
    | ((with_reducible refine CallZ.l (DetCall.kg (ht) (by with_unfolding_all rfl) (by with_unfolding_all rfl) (by with_unfolding_all rfl) ?_)); rotate_right; rintro zr1 zh1 zq1 zq2; (try simp -dsimp [go_sem] at zq1 zq2); obtain ⟨rfl⟩ := zq1; obtain ⟨rfl⟩ := zq2)
    | ((with_reducible refine DetCall.kg (ht) (by with_unfolding_all rfl) (by with_unfolding_all rfl) (by with_unfolding_all rfl) ?_); rotate_right; rintro zr1 zh1 zq1 zq2; (try simp -dsimp [go_sem] at zq1 zq2); obtain ⟨rfl⟩ := zq1; obtain ⟨rfl⟩ := zq2)
    | ((with_reducible refine DetCall.dg (ht) (by with_unfolding_all rfl) (by with_unfolding_all rfl) (by with_unfolding_all rfl) ?_); rotate_right; rintro zr1 zh1 zq1 zq2; (try simp -dsimp [go_sem] at zq1 zq2); obtain ⟨rfl⟩ := zq1; obtain ⟨rfl⟩ := zq2)
    | (with_reducible refine CallZ.z ?_)
    | (simp -dsimp [go_sem, h1]))
  refine awp_loop (fun _ : Unit => ⟨[(6, .one (.v (.sl (bR b)))), (7, iV b.length), (8, iV 0)], G, rHp r'⟩) (fun _ => True) (fun _ => 0) () (weak_auto ?_) trivial ?_
  · simp -dsimp [go_sem]
  · intro _ _
    unfold rHp
    cases b with
    | nil => repeat' (first
    | (with_reducible refine Cnd.intro (fun h => ?_) (fun h => ?_))
    | (with_reducible refine And.intro ?_ ?_)
    | (with_reducible refine Wk.refl ?_)
    | (with_reducible exact Weak.refl _ _)
    | (with_reducible refine weak_auto ?_)
    | (with_reducible apply awp_join)
    | (with_reducible refine CallZ.z ?_)
    | (simp -dsimp [go_sem]))
    | cons c b =>
      have hgi : (bR (c :: b))[0]? = some [.lit (.int .u8 (c.toNat : Int))] := by simp [bR]
      have e3 : IntKind.i64.wrap (c.toNat : Int) = c.toNat := by
        have := c.toNat_lt
        exact IntWalk.i64_in _ (by omega)
      repeat' (first
    | (with_reducible refine Cnd.intro (fun h => ?_) (fun h => ?_))
    | (with_reducible refine And.intro ?_ ?_)
    | (with_reducible refine Wk.refl ?_)
    | (with_reducible exact Weak.refl _ _)
    | (with_reducible refine weak_auto ?_)
    | (with_reducible apply awp_join)
    | (with_reducible refine CallZ.z ?_)
    | (simp -dsimp [go_sem, hgi, e3]))
theorem rtext_c (r : Rd) : DetCall Try.prog G 58 1 (rHp r) [.one (.ptr 0 0)] (sV (textR r).1) (rHp (textR r).2) := by
  refine gcall mixed Try.func58 ok_wire_reader_text rs_wire_reader_text (by simp [Try.f58]) ?_
  unfold ac_wire_reader_text
  have h1 := bR_bytes
  unfold textR rHp
  repeat' (first
    | (with_reducible refine Cnd.intro (fun h => ?_) (fun h => ?_))
    | (with_reducible refine And.intro ?_ ?_)
    | (with_reducible refine Wk.refl ?_)
    | (with_reducible exact Weak.refl _ _)
    | (with_reducible refine weak_auto ?_)
    | (with_reducible apply awp_join)
    | ((with_reducible refine CallZ.l (DetCall.kg (rsmall_c _) (by with_unfolding_all rfl) (by with_unfolding_all rfl) (by with_unfolding_all rfl) ?_)); rotate_right; rintro zr1 zh1 zq1 zq2; (try simp -dsimp [go_sem] at zq1 zq2); obtain ⟨rfl⟩ := zq1; obtain ⟨rfl⟩ := zq2)
    | ((with_reducible refine DetCall.kg (rsmall_c _) (by with_unfolding_all rfl) (by with_unfolding_all rfl) (by with_unfolding_all rfl) ?_); rotate_right; rintro zr1 zh1 zq1 zq2; (try simp -dsimp [go_sem] at zq1 zq2); obtain ⟨rfl⟩ := zq1; obtain ⟨rfl⟩ := zq2)
    | ((with_reducible refine DetCall.dg (rsmall_c _) (by with_unfolding_all rfl) (by with_unfolding_all rfl) (by with_unfolding_all rfl) ?_); rotate_right; rintro zr1 zh1 zq1 zq2; (try simp -dsimp [go_sem] at zq1 zq2); obtain ⟨rfl⟩ := zq1; obtain ⟨rfl⟩ := zq2)
    | ((with_reducible refine CallZ.l (DetCall.kg (take_c _ _ (Int.natCast_nonneg _)) (by with_unfolding_all rfl) (by with_unfolding_all rfl) (by with_unfolding_all rfl) ?_)); rotate_right; rintro zr1 zh1 zq1 zq2; (try simp -dsimp [go_sem] at zq1 zq2); obtain ⟨rfl⟩ := zq1; obtain ⟨rfl⟩ := zq2)
    | ((with_reducible refine DetCall.kg (take_c _ _ (Int.natCast_nonneg _)) (by with_unfolding_all rfl) (by with_unfolding_all rfl) (by with_unfolding_all rfl) ?_); rotate_right; rintro zr1 zh1 zq1 zq2; (try simp -dsimp [go_sem] at zq1 zq2); obtain ⟨rfl⟩ := zq1; obtain ⟨rfl⟩ := zq2)
    | ((with_reducible refine DetCall.dg (take_c _ _ (Int.natCast_nonneg _)) (by with_unfolding_all rfl) (by with_unfolding_all rfl) (by with_unfolding_all rfl) ?_); rotate_right; rintro zr1 zh1 zq1 zq2; (try simp -dsimp [go_sem] at zq1 zq2); obtain ⟨rfl⟩ := zq1; obtain ⟨rfl⟩ := zq2)
    | (with_reducible refine CallZ.z ?_)
    | (simp -dsimp [go_sem, h1]))
abbrev Cmd.cells (c : Cmd) : List C := [iC c.k, sC c.key, sC c.field, sC c.text, iC c.n]
theorem rcommand_c (r : Rd) : DetCall Try.prog G 53 1 (rHp r) [.one (.ptr 0 0)] (.agg (cmdR r).1.cells) (rHp (cmdR r).2) := by
  refine gcall mixed Try.func53 ok_wire_reader_command rs_wire_reader_command (by simp [Try.f53]) ?_
  unfold ac_wire_reader_command
  simp only [cmdR, Cmd.cells]
  unfold rHp
  repeat' (first
    | (with_reducible refine Cnd.intro (fun h => ?_) (fun h => ?_))
    | (with_reducible refine And.intro ?_ ?_)
    | (with_reducible refine Wk.refl ?_)
    | (with_reducible exact Weak.refl _ _)
    | (with_reducible refine weak_auto ?_)
    | (with_reducible apply awp_join)
    | ((with_reducible refine CallZ.l (DetCall.kg (rsmall_c _) (by with_unfolding_all rfl) (by with_unfolding_all rfl) (by with_unfolding_all rfl) ?_)); rotate_right; rintro zr1 zh1 zq1 zq2; (try simp -dsimp [go_sem] at zq1 zq2); obtain ⟨rfl⟩ := zq1; obtain ⟨rfl⟩ := zq2)
    | ((with_reducible refine DetCall.kg (rsmall_c _) (by with_unfolding_all rfl) (by with_unfolding_all rfl) (by with_unfolding_all rfl) ?_); rotate_right; rintro zr1 zh1 zq1 zq2; (try simp -dsimp [go_sem] at zq1 zq2); obtain ⟨rfl⟩ := zq1; obtain ⟨rfl⟩ := zq2)
    | ((with_reducible refine DetCall.dg (rsmall_c _) (by with_unfolding_all rfl) (by with_unfolding_all rfl) (by with_unfolding_all rfl) ?_); rotate_right; rintro zr1 zh1 zq1 zq2; (try simp -dsimp [go_sem] at zq1 zq2); obtain ⟨rfl⟩ := zq1; obtain ⟨rfl⟩ := zq2)
    | ((with_reducible refine CallZ.l (DetCall.kg (rtext_c _) (by with_unfolding_all rfl) (by with_unfolding_all rfl) (by with_unfolding_all rfl) ?_)); rotate_right; rintro zr1 zh1 zq1 zq2; (try simp -dsimp [go_sem] at zq1 zq2); obtain ⟨rfl⟩ := zq1; obtain ⟨rfl⟩ := zq2)
    | ((with_reducible refine DetCall.kg (rtext_c _) (by with_unfolding_all rfl) (by with_unfolding_all rfl) (by with_unfolding_all rfl) ?_); rotate_right; rintro zr1 zh1 zq1 zq2; (try simp -dsimp [go_sem] at zq1 zq2); obtain ⟨rfl⟩ := zq1; obtain ⟨rfl⟩ := zq2)
    | ((with_reducible refine DetCall.dg (rtext_c _) (by with_unfolding_all rfl) (by with_unfolding_all rfl) (by with_unfolding_all rfl) ?_); rotate_right; rintro zr1 zh1 zq1 zq2; (try simp -dsimp [go_sem] at zq1 zq2); obtain ⟨rfl⟩ := zq1; obtain ⟨rfl⟩ := zq2)
    | ((with_reducible refine CallZ.l (DetCall.kg (rnumber_c _) (by with_unfolding_all rfl) (by with_unfolding_all rfl) (by with_unfolding_all rfl) ?_)); rotate_right; rintro zr1 zh1 zq1 zq2; (try simp -dsimp [go_sem] at zq1 zq2); obtain ⟨rfl⟩ := zq1; obtain ⟨rfl⟩ := zq2)
    | ((with_reducible refine DetCall.kg (rnumber_c _) (by with_unfolding_all rfl) (by with_unfolding_all rfl) (by with_unfolding_all rfl) ?_); rotate_right; rintro zr1 zh1 zq1 zq2; (try simp -dsimp [go_sem] at zq1 zq2); obtain ⟨rfl⟩ := zq1; obtain ⟨rfl⟩ := zq2)
    | ((with_reducible refine DetCall.dg (rnumber_c _) (by with_unfolding_all rfl) (by with_unfolding_all rfl) (by with_unfolding_all rfl) ?_); rotate_right; rintro zr1 zh1 zq1 zq2; (try simp -dsimp [go_sem] at zq1 zq2); obtain ⟨rfl⟩ := zq1; obtain ⟨rfl⟩ := zq2)
    | (with_reducible refine CallZ.z ?_)
    | (simp -dsimp [go_sem]))
theorem rcall_c (r : Rd) : DetCall Try.prog G 48 1 (rHp r) [.one (.ptr 0 0)] (.agg (iC (callR r).1.1 :: iC (callR r).1.2.1 :: (callR r).1.2.2.cells)) (rHp (callR r).2) := by
  refine gcall mixed Try.func48 ok_wire_reader_call rs_wire_reader_call (by simp [Try.f48]) ?_
  unfold ac_wire_reader_call
  by_cases h0 : (numR r).1 = 0
  · simp only [callR, h0, if_true, Cmd.cells]
    unfold rHp
    repeat' (first
    | (with_reducible refine Cnd.intro (fun h => ?_) (fun h => ?_))
    | (with_reducible refine And.intro ?_ ?_)
    | (with_reducible refine Wk.refl ?_)
    | (with_reducible exact Weak.refl _ _)
    | (with_reducible refine weak_auto ?_)
    | (with_reducible apply awp_join)
    | ((with_reducible refine CallZ.l (DetCall.kg (rnumber_c _) (by with_unfolding_all rfl) (by with_unfolding_all rfl) (by with_unfolding_all rfl) ?_)); rotate_right; rintro zr1 zh1 zq1 zq2; (try simp -dsimp [go_sem] at zq1 zq2); obtain ⟨rfl⟩ := zq1; obtain ⟨rfl⟩ := zq2)
    | ((with_reducible refine DetCall.kg (rnumber_c _) (by with_unfolding_all rfl) (by with_unfolding_all rfl) (by with_unfolding_all rfl) ?_); rotate_right; rintro zr1 zh1 zq1 zq2; (try simp -dsimp [go_sem] at zq1 zq2); obtain ⟨rfl⟩ := zq1; obtain ⟨rfl⟩ := zq2)
    | ((with_reducible refine DetCall.dg (rnumber_c _) (by with_unfolding_all rfl) (by with_unfolding_all rfl) (by with_unfolding_all rfl) ?_); rotate_right; rintro zr1 zh1 zq1 zq2; (try simp -dsimp [go_sem] at zq1 zq2); obtain ⟨rfl⟩ := zq1; obtain ⟨rfl⟩ := zq2)
    | (with_reducible refine CallZ.z ?_)
    | (simp -dsimp [go_sem, h0]))
  · simp only [callR, h0, if_false, Cmd.cells]
    have h1 := beq_false_of_ne h0
    have h2 : ((numR r).1 != 0) = true := by simp [bne, h1]
    unfold rHp
    repeat' (first
    | (with_reducible refine Cnd.intro (fun h => ?_) (fun h => ?_))
    | (with_reducible refine And.intro ?_ ?_)
    | (with_reducible refine Wk.refl ?_)
    | (with_reducible exact Weak.refl _ _)
    | (with_reducible refine weak_auto ?_)
    | (with_reducible apply awp_join)
    | ((with_reducible refine CallZ.l (DetCall.kg (rnumber_c _) (by with_unfolding_all rfl) (by with_unfolding_all rfl) (by with_unfolding_all rfl) ?_)); rotate_right; rintro zr1 zh1 zq1 zq2; (try simp -dsimp [go_sem] at zq1 zq2); obtain ⟨rfl⟩ := zq1; obtain ⟨rfl⟩ := zq2)
    | ((with_reducible refine DetCall.kg (rnumber_c _) (by with_unfolding_all rfl) (by with_unfolding_all rfl) (by with_unfolding_all rfl) ?_); rotate_right; rintro zr1 zh1 zq1 zq2; (try simp -dsimp [go_sem] at zq1 zq2); obtain ⟨rfl⟩ := zq1; obtain ⟨rfl⟩ := zq2)
    | ((with_reducible refine DetCall.dg (rnumber_c _) (by with_unfolding_all rfl) (by with_unfolding_all rfl) (by with_unfolding_all rfl) ?_); rotate_right; rintro zr1 zh1 zq1 zq2; (try simp -dsimp [go_sem] at zq1 zq2); obtain ⟨rfl⟩ := zq1; obtain ⟨rfl⟩ := zq2)
    | ((with_reducible refine CallZ.l (DetCall.kg (rcommand_c _) (by with_unfolding_all rfl) (by with_unfolding_all rfl) (by with_unfolding_all rfl) ?_)); rotate_right; rintro zr1 zh1 zq1 zq2; (try simp -dsimp [go_sem] at zq1 zq2); obtain ⟨rfl⟩ := zq1; obtain ⟨rfl⟩ := zq2)
    | ((with_reducible refine DetCall.kg (rcommand_c _) (by with_unfolding_all rfl) (by with_unfolding_all rfl) (by with_unfolding_all rfl) ?_); rotate_right; rintro zr1 zh1 zq1 zq2; (try simp -dsimp [go_sem] at zq1 zq2); obtain ⟨rfl⟩ := zq1; obtain ⟨rfl⟩ := zq2)
    | ((with_reducible refine DetCall.dg (rcommand_c _) (by with_unfolding_all rfl) (by with_unfolding_all rfl) (by with_unfolding_all rfl) ?_); rotate_right; rintro zr1 zh1 zq1 zq2; (try simp -dsimp [go_sem] at zq1 zq2); obtain ⟨rfl⟩ := zq1; obtain ⟨rfl⟩ := zq2)
    | (with_reducible refine CallZ.z ?_)
    | (simp -dsimp [go_sem, h2]))
theorem ritem_c (r : Rd) : DetCall Try.prog G 38 1 (rHp r) [.one (.ptr 0 0)] (.tup [.agg ((itemR r).1.row.map .v), bV (itemR r).2.1]) (rHp (itemR r).2.2) := by
  refine gcall mixed Try.func38 ok_wire_reader_item rs_wire_reader_item (by simp [Try.f38]) ?_
  unfold ac_wire_reader_item
  by_cases h0 : (smallR (numR (numR r).2).2).1 = 0
  · simp only [itemR, h0, if_true, Item.row, List.map_cons, List.map_nil]
    unfold rHp
    repeat' (first
    | (with_reducible refine Cnd.intro (fun h => ?_) (fun h => ?_))
    | (with_reducible refine And.intro ?_ ?_)
    | (with_reducible refine Wk.refl ?_)
    | (with_reducible exact Weak.refl _ _)
    | (with_reducible refine weak_auto ?_)
    | (with_reducible apply awp_join)
    | ((with_reducible refine CallZ.l (DetCall.kg (rnumber_c _) (by with_unfolding_all rfl) (by with_unfolding_all rfl) (by with_unfolding_all rfl) ?_)); rotate_right; rintro zr1 zh1 zq1 zq2; (try simp -dsimp [go_sem] at zq1 zq2); obtain ⟨rfl⟩ := zq1; obtain ⟨rfl⟩ := zq2)
    | ((with_reducible refine DetCall.kg (rnumber_c _) (by with_unfolding_all rfl) (by with_unfolding_all rfl) (by with_unfolding_all rfl) ?_); rotate_right; rintro zr1 zh1 zq1 zq2; (try simp -dsimp [go_sem] at zq1 zq2); obtain ⟨rfl⟩ := zq1; obtain ⟨rfl⟩ := zq2)
    | ((with_reducible refine DetCall.dg (rnumber_c _) (by with_unfolding_all rfl) (by with_unfolding_all rfl) (by with_unfolding_all rfl) ?_); rotate_right; rintro zr1 zh1 zq1 zq2; (try simp -dsimp [go_sem] at zq1 zq2); obtain ⟨rfl⟩ := zq1; obtain ⟨rfl⟩ := zq2)
    | ((with_reducible refine CallZ.l (DetCall.kg (rsmall_c _) (by with_unfolding_all rfl) (by with_unfolding_all rfl) (by with_unfolding_all rfl) ?_)); rotate_right; rintro zr1 zh1 zq1 zq2; (try simp -dsimp [go_sem] at zq1 zq2); obtain ⟨rfl⟩ := zq1; obtain ⟨rfl⟩ := zq2)
    | ((with_reducible refine DetCall.kg (rsmall_c _) (by with_unfolding_all rfl) (by with_unfolding_all rfl) (by with_unfolding_all rfl) ?_); rotate_right; rintro zr1 zh1 zq1 zq2; (try simp -dsimp [go_sem] at zq1 zq2); obtain ⟨rfl⟩ := zq1; obtain ⟨rfl⟩ := zq2)
    | ((with_reducible refine DetCall.dg (rsmall_c _) (by with_unfolding_all rfl) (by with_unfolding_all rfl) (by with_unfolding_all rfl) ?_); rotate_right; rintro zr1 zh1 zq1 zq2; (try simp -dsimp [go_sem] at zq1 zq2); obtain ⟨rfl⟩ := zq1; obtain ⟨rfl⟩ := zq2)
    | ((with_reducible refine CallZ.l (DetCall.kg (rcall_c _) (by with_unfolding_all rfl) (by with_unfolding_all rfl) (by with_unfolding_all rfl) ?_)); rotate_right; rintro zr1 zh1 zq1 zq2; (try simp -dsimp [go_sem] at zq1 zq2); obtain ⟨rfl⟩ := zq1; obtain ⟨rfl⟩ := zq2)
    | ((with_reducible refine DetCall.kg (rcall_c _) (by with_unfolding_all rfl) (by with_unfolding_all rfl) (by with_unfolding_all rfl) ?_); rotate_right; rintro zr1 zh1 zq1 zq2; (try simp -dsimp [go_sem] at zq1 zq2); obtain ⟨rfl⟩ := zq1; obtain ⟨rfl⟩ := zq2)
    | ((with_reducible refine DetCall.dg (rcall_c _) (by with_unfolding_all rfl) (by with_unfolding_all rfl) (by with_unfolding_all rfl) ?_); rotate_right; rintro zr1 zh1 zq1 zq2; (try simp -dsimp [go_sem] at zq1 zq2); obtain ⟨rfl⟩ := zq1; obtain ⟨rfl⟩ := zq2)
    | (with_reducible refine CallZ.z ?_)
    | (simp -dsimp [go_sem, h0]))
  · have h1 : ((((smallR (numR (numR r).2).2).1 : Nat) : Int) == 0) = false := beq_false_of_ne (by omega)
    simp only [itemR, h0, if_false, Item.row, List.map_cons, List.map_nil]
    by_cases h2 : (smallR (numR (numR r).2).2).1 = 1
    · unfold rHp
      rw [h2]
      repeat' (first
    | (with_reducible refine Cnd.intro (fun h => ?_) (fun h => ?_))
    | (with_reducible refine And.intro ?_ ?_)
    | (with_reducible refine Wk.refl ?_)
    | (with_reducible exact Weak.refl _ _)
    | (with_reducible refine weak_auto ?_)
    | (with_reducible apply awp_join)
    | ((with_reducible refine CallZ.l (DetCall.kg (rnumber_c _) (by with_unfolding_all rfl) (by with_unfolding_all rfl) (by with_unfolding_all rfl) ?_)); rotate_right; rintro zr1 zh1 zq1 zq2; (try simp -dsimp [go_sem] at zq1 zq2); obtain ⟨rfl⟩ := zq1; obtain ⟨rfl⟩ := zq2)
    | ((with_reducible refine DetCall.kg (rnumber_c _) (by with_unfolding_all rfl) (by with_unfolding_all rfl) (by with_unfolding_all rfl) ?_); rotate_right; rintro zr1 zh1 zq1 zq2; (try simp -dsimp [go_sem] at zq1 zq2); obtain ⟨rfl⟩ := zq1; obtain ⟨rfl⟩ := zq2)
    | ((with_reducible refine DetCall.dg (rnumber_c _) (by with_unfolding_all rfl) (by with_unfolding_all rfl) (by with_unfolding_all rfl) ?_); rotate_right; rintro zr1 zh1 zq1 zq2; (try simp -dsimp [go_sem] at zq1 zq2); obtain ⟨rfl⟩ := zq1; obtain ⟨rfl⟩ := zq2)
    | ((with_reducible refine CallZ.l (DetCall.kg (rsmall_c _) (by with_unfolding_all rfl) (by with_unfolding_all rfl) (by with_unfolding_all rfl) ?_)); rotate_right; rintro zr1 zh1 zq1 zq2; (try simp -dsimp [go_sem] at zq1 zq2); obtain ⟨rfl⟩ := zq1; obtain ⟨rfl⟩ := zq2)
    | ((with_reducible refine DetCall.kg (rsmall_c _) (by with_unfolding_all rfl) (by with_unfolding_all rfl) (by with_unfolding_all rfl) ?_); rotate_right; rintro zr1 zh1 zq1 zq2; (try simp -dsimp [go_sem] at zq1 zq2); obtain ⟨rfl⟩ := zq1; obtain ⟨rfl⟩ := zq2)
    | ((with_reducible refine DetCall.dg (rsmall_c _) (by with_unfolding_all rfl) (by with_unfolding_all rfl) (by with_unfolding_all rfl) ?_); rotate_right; rintro zr1 zh1 zq1 zq2; (try simp -dsimp [go_sem] at zq1 zq2); obtain ⟨rfl⟩ := zq1; obtain ⟨rfl⟩ := zq2)
    | (with_reducible refine CallZ.z ?_)
    | (simp -dsimp [go_sem, h2]))
    · have h3 : ((((smallR (numR (numR r).2).2).1 : Nat) : Int) == 1) = false := beq_false_of_ne (by omega)
      unfold rHp
      repeat' (first
    | (with_reducible refine Cnd.intro (fun h => ?_) (fun h => ?_))
    | (with_reducible refine And.intro ?_ ?_)
    | (with_reducible refine Wk.refl ?_)
    | (with_reducible exact Weak.refl _ _)
    | (with_reducible refine weak_auto ?_)
    | (with_reducible apply awp_join)
    | ((with_reducible refine CallZ.l (DetCall.kg (rnumber_c _) (by with_unfolding_all rfl) (by with_unfolding_all rfl) (by with_unfolding_all rfl) ?_)); rotate_right; rintro zr1 zh1 zq1 zq2; (try simp -dsimp [go_sem] at zq1 zq2); obtain ⟨rfl⟩ := zq1; obtain ⟨rfl⟩ := zq2)
    | ((with_reducible refine DetCall.kg (rnumber_c _) (by with_unfolding_all rfl) (by with_unfolding_all rfl) (by with_unfolding_all rfl) ?_); rotate_right; rintro zr1 zh1 zq1 zq2; (try simp -dsimp [go_sem] at zq1 zq2); obtain ⟨rfl⟩ := zq1; obtain ⟨rfl⟩ := zq2)
    | ((with_reducible refine DetCall.dg (rnumber_c _) (by with_unfolding_all rfl) (by with_unfolding_all rfl) (by with_unfolding_all rfl) ?_); rotate_right; rintro zr1 zh1 zq1 zq2; (try simp -dsimp [go_sem] at zq1 zq2); obtain ⟨rfl⟩ := zq1; obtain ⟨rfl⟩ := zq2)
    | ((with_reducible refine CallZ.l (DetCall.kg (rsmall_c _) (by with_unfolding_all rfl) (by with_unfolding_all rfl) (by with_unfolding_all rfl) ?_)); rotate_right; rintro zr1 zh1 zq1 zq2; (try simp -dsimp [go_sem] at zq1 zq2); obtain ⟨rfl⟩ := zq1; obtain ⟨rfl⟩ := zq2)
    | ((with_reducible refine DetCall.kg (rsmall_c _) (by with_unfolding_all rfl) (by with_unfolding_all rfl) (by with_unfolding_all rfl) ?_); rotate_right; rintro zr1 zh1 zq1 zq2; (try simp -dsimp [go_sem] at zq1 zq2); obtain ⟨rfl⟩ := zq1; obtain ⟨rfl⟩ := zq2)
    | ((with_reducible refine DetCall.dg (rsmall_c _) (by with_unfolding_all rfl) (by with_unfolding_all rfl) (by with_unfolding_all rfl) ?_); rotate_right; rintro zr1 zh1 zq1 zq2; (try simp -dsimp [go_sem] at zq1 zq2); obtain ⟨rfl⟩ := zq1; obtain ⟨rfl⟩ := zq2)
    | (with_reducible refine CallZ.z ?_)
    | (simp -dsimp [go_sem, h1, h2, h3]))
theorem rend_c (r : Rd) (ok : Bool) : DetCall Try.prog G 39 1 (rHp r) [.one (.ptr 0 0), bV ok] (iV (if r.short then 9 else if ok = false ∨ 0 < r.rest.length then 8 else 0)) (rHp r) := by
  refine gcall mixed Try.func39 ok_wire_reader_end rs_wire_reader_end (by simp [Try.f39]) ?_
  unfold ac_wire_reader_end
  have h1 := bR_len r.rest
  unfold rHp
  cases hs : r.short <;> cases ok
  all_goals
    repeat' (first
    | (with_reducible refine Cnd.intro (fun h => ?_) (fun h => ?_))
    | (with_reducible refine And.intro ?_ ?_)
    | (with_reducible refine Wk.refl ?_)
    | (with_reducible exact Weak.refl _ _)
    | (with_reducible refine weak_auto ?_)
    | (with_reducible apply awp_join)
    | (with_reducible refine CallZ.z ?_)
    | (simp -dsimp [go_sem, h1]))
  all_goals first | (simp_all; done) | (intro hh; simp_all)
def zeroItem : Item := ⟨0, 0, false, 0, 0, 0, ⟨#[]⟩, ⟨#[]⟩, ⟨#[]⟩, 0⟩
/-- What is read of bytes, and what is wrong. -/
def decItem (l : List UInt8) : Item × Int :=
  if 20000 < l.length then (zeroItem, 1)
  else
    let a := itemR ⟨l, false⟩
    if a.2.2.short then (zeroItem, 9)
    else if a.2.1 = false ∨ 0 < a.2.2.rest.length then (zeroItem, 8)
    else if a.1.check = 0 then (a.1, 0) else (zeroItem, a.1.check)
theorem checkItemV_c (x : Item) : PCall Try.prog G 32 [.agg (x.row.map .v)] (iV x.check) := checkItem_c (G := G) x.term x.time x.nop x.client x.seq x.k x.key x.field x.text x.n
theorem decodeItem_c (l : List UInt8) : PCall Try.prog G 31 [.one (.v (.sl (bR l)))] (.tup [.agg ((decItem l).1.row.map .v), iV (decItem l).2]) := by
  refine pcall mixed Try.func31 ok_wire_DecodeItem rs_wire_DecodeItem (by simp [Try.f31]) ?_
  unfold ac_wire_DecodeItem
  have h1 := bR_len l
  have c1 := ritem_c (G := G) ⟨l, false⟩
  have c2 := rend_c (G := G) (itemR ⟨l, false⟩).2.2 (itemR ⟨l, false⟩).2.1
  have c3 := checkItemV_c (G := G) (itemR ⟨l, false⟩).1
  unfold decItem
  generalize itemR ⟨l, false⟩ = q at *
  obtain ⟨x, ok, r'⟩ := q
  simp only [Item.row, List.map_cons, List.map_nil] at c1 c2 c3 ⊢
  by_cases hl : 20000 < l.length
  · have hl' : (20000 : Int) < l.length := by omega
    rw [if_pos hl]
    repeat' (first
    | (with_reducible refine Cnd.intro (fun h => ?_) (fun h => ?_))
    | (with_reducible refine And.intro ?_ ?_)
    | (with_reducible refine Wk.refl ?_)
    | (with_reducible exact Weak.refl _ _)
    | (with_reducible refine weak_auto ?_)
    | (with_reducible apply awp_join)
    | (with_reducible refine CallZ.z ?_)
    | (simp -dsimp [go_sem, h1, hl', zeroItem, Item.row]))
  · have hl' : ¬ (20000 : Int) < l.length := by omega
    rw [if_neg hl]
    unfold rHp at c1 c2
    cases hs : r'.short
    · rw [hs] at c1 c2
      simp only [Bool.false_eq_true, if_false] at c2 ⊢
      by_cases ho : ok = false ∨ 0 < r'.rest.length
      · rw [if_pos ho] at c2 ⊢
        repeat' (first
    | (with_reducible refine Cnd.intro (fun h => ?_) (fun h => ?_))
    | (with_reducible refine And.intro ?_ ?_)
    | (with_reducible refine Wk.refl ?_)
    | (with_reducible exact Weak.refl _ _)
    | (with_reducible refine weak_auto ?_)
    | (with_reducible apply awp_join)
    | ((with_reducible refine CallZ.l (DetCall.kg (c1) (by with_unfolding_all rfl) (by with_unfolding_all rfl) (by with_unfolding_all rfl) ?_)); rotate_right; rintro zr1 zh1 zq1 zq2; (try simp -dsimp [go_sem] at zq1 zq2); obtain ⟨rfl⟩ := zq1; obtain ⟨rfl⟩ := zq2)
    | ((with_reducible refine DetCall.kg (c1) (by with_unfolding_all rfl) (by with_unfolding_all rfl) (by with_unfolding_all rfl) ?_); rotate_right; rintro zr1 zh1 zq1 zq2; (try simp -dsimp [go_sem] at zq1 zq2); obtain ⟨rfl⟩ := zq1; obtain ⟨rfl⟩ := zq2)
    | ((with_reducible refine DetCall.dg (c1) (by with_unfolding_all rfl) (by with_unfolding_all rfl) (by with_unfolding_all rfl) ?_); rotate_right; rintro zr1 zh1 zq1 zq2; (try simp -dsimp [go_sem] at zq1 zq2); obtain ⟨rfl⟩ := zq1; obtain ⟨rfl⟩ := zq2)
    | ((with_reducible refine CallZ.l (DetCall.kg (c2) (by with_unfolding_all rfl) (by with_unfolding_all rfl) (by with_unfolding_all rfl) ?_)); rotate_right; rintro zr1 zh1 zq1 zq2; (try simp -dsimp [go_sem] at zq1 zq2); obtain ⟨rfl⟩ := zq1; obtain ⟨rfl⟩ := zq2)
    | ((with_reducible refine DetCall.kg (c2) (by with_unfolding_all rfl) (by with_unfolding_all rfl) (by with_unfolding_all rfl) ?_); rotate_right; rintro zr1 zh1 zq1 zq2; (try simp -dsimp [go_sem] at zq1 zq2); obtain ⟨rfl⟩ := zq1; obtain ⟨rfl⟩ := zq2)
    | ((with_reducible refine DetCall.dg (c2) (by with_unfolding_all rfl) (by with_unfolding_all rfl) (by with_unfolding_all rfl) ?_); rotate_right; rintro zr1 zh1 zq1 zq2; (try simp -dsimp [go_sem] at zq1 zq2); obtain ⟨rfl⟩ := zq1; obtain ⟨rfl⟩ := zq2)
    | (with_reducible refine CallZ.z ?_)
    | (simp -dsimp [go_sem, h1, hl', zeroItem, Item.row]))
      · rw [if_neg ho] at c2 ⊢
        by_cases hc : x.check = 0
        · rw [hc] at c3
          rw [if_pos hc]
          repeat' (first
    | (with_reducible refine Cnd.intro (fun h => ?_) (fun h => ?_))
    | (with_reducible refine And.intro ?_ ?_)
    | (with_reducible refine Wk.refl ?_)
    | (with_reducible exact Weak.refl _ _)
    | (with_reducible refine weak_auto ?_)
    | (with_reducible apply awp_join)
    | ((with_reducible refine CallZ.l (DetCall.kg (c1) (by with_unfolding_all rfl) (by with_unfolding_all rfl) (by with_unfolding_all rfl) ?_)); rotate_right; rintro zr1 zh1 zq1 zq2; (try simp -dsimp [go_sem] at zq1 zq2); obtain ⟨rfl⟩ := zq1; obtain ⟨rfl⟩ := zq2)
    | ((with_reducible refine DetCall.kg (c1) (by with_unfolding_all rfl) (by with_unfolding_all rfl) (by with_unfolding_all rfl) ?_); rotate_right; rintro zr1 zh1 zq1 zq2; (try simp -dsimp [go_sem] at zq1 zq2); obtain ⟨rfl⟩ := zq1; obtain ⟨rfl⟩ := zq2)
    | ((with_reducible refine DetCall.dg (c1) (by with_unfolding_all rfl) (by with_unfolding_all rfl) (by with_unfolding_all rfl) ?_); rotate_right; rintro zr1 zh1 zq1 zq2; (try simp -dsimp [go_sem] at zq1 zq2); obtain ⟨rfl⟩ := zq1; obtain ⟨rfl⟩ := zq2)
    | ((with_reducible refine CallZ.l (DetCall.kg (c2) (by with_unfolding_all rfl) (by with_unfolding_all rfl) (by with_unfolding_all rfl) ?_)); rotate_right; rintro zr1 zh1 zq1 zq2; (try simp -dsimp [go_sem] at zq1 zq2); obtain ⟨rfl⟩ := zq1; obtain ⟨rfl⟩ := zq2)
    | ((with_reducible refine DetCall.kg (c2) (by with_unfolding_all rfl) (by with_unfolding_all rfl) (by with_unfolding_all rfl) ?_); rotate_right; rintro zr1 zh1 zq1 zq2; (try simp -dsimp [go_sem] at zq1 zq2); obtain ⟨rfl⟩ := zq1; obtain ⟨rfl⟩ := zq2)
    | ((with_reducible refine DetCall.dg (c2) (by with_unfolding_all rfl) (by with_unfolding_all rfl) (by with_unfolding_all rfl) ?_); rotate_right; rintro zr1 zh1 zq1 zq2; (try simp -dsimp [go_sem] at zq1 zq2); obtain ⟨rfl⟩ := zq1; obtain ⟨rfl⟩ := zq2)
    | (with_reducible refine CallZ.l (PCall.kf (c3) ?_ ?_))
    | (with_reducible refine PCall.kf (c3) ?_ ?_)
    | (with_reducible refine PCall.df (c3) ?_ ?_)
    | (with_reducible refine CallZ.l (PCall.kn (c3) (by with_unfolding_all rfl) (by with_unfolding_all rfl) ?_))
    | (with_reducible refine PCall.kn (c3) (by with_unfolding_all rfl) (by with_unfolding_all rfl) ?_)
    | (with_reducible refine PCall.dn (c3) (by with_unfolding_all rfl) (by with_unfolding_all rfl) ?_)
    | ((with_reducible refine PCall.dz (c3) (by with_unfolding_all rfl) (by with_unfolding_all rfl) ?_); rotate_right; rintro zh1 zq1; (try simp -dsimp [go_sem] at zq1); obtain ⟨rfl⟩ := zq1)
    | (with_reducible refine CallZ.z ?_)
    | (simp -dsimp [go_sem, h1, hl', Item.row]))
        · have hcb : (x.check != 0) = true := by simpa using hc
          rw [if_neg hc]
          repeat' (first
    | (with_reducible refine Cnd.intro (fun h => ?_) (fun h => ?_))
    | (with_reducible refine And.intro ?_ ?_)
    | (with_reducible refine Wk.refl ?_)
    | (with_reducible exact Weak.refl _ _)
    | (with_reducible refine weak_auto ?_)
    | (with_reducible apply awp_join)
    | ((with_reducible refine CallZ.l (DetCall.kg (c1) (by with_unfolding_all rfl) (by with_unfolding_all rfl) (by with_unfolding_all rfl) ?_)); rotate_right; rintro zr1 zh1 zq1 zq2; (try simp -dsimp [go_sem] at zq1 zq2); obtain ⟨rfl⟩ := zq1; obtain ⟨rfl⟩ := zq2)
    | ((with_reducible refine DetCall.kg (c1) (by with_unfolding_all rfl) (by with_unfolding_all rfl) (by with_unfolding_all rfl) ?_); rotate_right; rintro zr1 zh1 zq1 zq2; (try simp -dsimp [go_sem] at zq1 zq2); obtain ⟨rfl⟩ := zq1; obtain ⟨rfl⟩ := zq2)
    | ((with_reducible refine DetCall.dg (c1) (by with_unfolding_all rfl) (by with_unfolding_all rfl) (by with_unfolding_all rfl) ?_); rotate_right; rintro zr1 zh1 zq1 zq2; (try simp -dsimp [go_sem] at zq1 zq2); obtain ⟨rfl⟩ := zq1; obtain ⟨rfl⟩ := zq2)
    | ((with_reducible refine CallZ.l (DetCall.kg (c2) (by with_unfolding_all rfl) (by with_unfolding_all rfl) (by with_unfolding_all rfl) ?_)); rotate_right; rintro zr1 zh1 zq1 zq2; (try simp -dsimp [go_sem] at zq1 zq2); obtain ⟨rfl⟩ := zq1; obtain ⟨rfl⟩ := zq2)
    | ((with_reducible refine DetCall.kg (c2) (by with_unfolding_all rfl) (by with_unfolding_all rfl) (by with_unfolding_all rfl) ?_); rotate_right; rintro zr1 zh1 zq1 zq2; (try simp -dsimp [go_sem] at zq1 zq2); obtain ⟨rfl⟩ := zq1; obtain ⟨rfl⟩ := zq2)
    | ((with_reducible refine DetCall.dg (c2) (by with_unfolding_all rfl) (by with_unfolding_all rfl) (by with_unfolding_all rfl) ?_); rotate_right; rintro zr1 zh1 zq1 zq2; (try simp -dsimp [go_sem] at zq1 zq2); obtain ⟨rfl⟩ := zq1; obtain ⟨rfl⟩ := zq2)
    | (with_reducible refine CallZ.l (PCall.kf (c3) ?_ ?_))
    | (with_reducible refine PCall.kf (c3) ?_ ?_)
    | (with_reducible refine PCall.df (c3) ?_ ?_)
    | (with_reducible refine CallZ.l (PCall.kn (c3) (by with_unfolding_all rfl) (by with_unfolding_all rfl) ?_))
    | (with_reducible refine PCall.kn (c3) (by with_unfolding_all rfl) (by with_unfolding_all rfl) ?_)
    | (with_reducible refine PCall.dn (c3) (by with_unfolding_all rfl) (by with_unfolding_all rfl) ?_)
    | ((with_reducible refine PCall.dz (c3) (by with_unfolding_all rfl) (by with_unfolding_all rfl) ?_); rotate_right; rintro zh1 zq1; (try simp -dsimp [go_sem] at zq1); obtain ⟨rfl⟩ := zq1)
    | (with_reducible refine CallZ.z ?_)
    | (simp -dsimp [go_sem, h1, hl', hcb, zeroItem, Item.row]))
    · rw [hs] at c1 c2
      simp only [if_true] at c2 ⊢
      repeat' (first
    | (with_reducible refine Cnd.intro (fun h => ?_) (fun h => ?_))
    | (with_reducible refine And.intro ?_ ?_)
    | (with_reducible refine Wk.refl ?_)
    | (with_reducible exact Weak.refl _ _)
    | (with_reducible refine weak_auto ?_)
    | (with_reducible apply awp_join)
    | ((with_reducible refine CallZ.l (DetCall.kg (c1) (by with_unfolding_all rfl) (by with_unfolding_all rfl) (by with_unfolding_all rfl) ?_)); rotate_right; rintro zr1 zh1 zq1 zq2; (try simp -dsimp [go_sem] at zq1 zq2); obtain ⟨rfl⟩ := zq1; obtain ⟨rfl⟩ := zq2)
    | ((with_reducible refine DetCall.kg (c1) (by with_unfolding_all rfl) (by with_unfolding_all rfl) (by with_unfolding_all rfl) ?_); rotate_right; rintro zr1 zh1 zq1 zq2; (try simp -dsimp [go_sem] at zq1 zq2); obtain ⟨rfl⟩ := zq1; obtain ⟨rfl⟩ := zq2)
    | ((with_reducible refine DetCall.dg (c1) (by with_unfolding_all rfl) (by with_unfolding_all rfl) (by with_unfolding_all rfl) ?_); rotate_right; rintro zr1 zh1 zq1 zq2; (try simp -dsimp [go_sem] at zq1 zq2); obtain ⟨rfl⟩ := zq1; obtain ⟨rfl⟩ := zq2)
    | ((with_reducible refine CallZ.l (DetCall.kg (c2) (by with_unfolding_all rfl) (by with_unfolding_all rfl) (by with_unfolding_all rfl) ?_)); rotate_right; rintro zr1 zh1 zq1 zq2; (try simp -dsimp [go_sem] at zq1 zq2); obtain ⟨rfl⟩ := zq1; obtain ⟨rfl⟩ := zq2)
    | ((with_reducible refine DetCall.kg (c2) (by with_unfolding_all rfl) (by with_unfolding_all rfl) (by with_unfolding_all rfl) ?_); rotate_right; rintro zr1 zh1 zq1 zq2; (try simp -dsimp [go_sem] at zq1 zq2); obtain ⟨rfl⟩ := zq1; obtain ⟨rfl⟩ := zq2)
    | ((with_reducible refine DetCall.dg (c2) (by with_unfolding_all rfl) (by with_unfolding_all rfl) (by with_unfolding_all rfl) ?_); rotate_right; rintro zr1 zh1 zq1 zq2; (try simp -dsimp [go_sem] at zq1 zq2); obtain ⟨rfl⟩ := zq1; obtain ⟨rfl⟩ := zq2)
    | (with_reducible refine CallZ.z ?_)
    | (simp -dsimp [go_sem, h1, hl', zeroItem, Item.row]))
end Go.Proofs.Ytniihihcklpdgaa
