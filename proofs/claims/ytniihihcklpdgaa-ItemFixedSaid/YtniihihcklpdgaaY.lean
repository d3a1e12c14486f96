/- Items as bytes: what the writer's functions answer. -/
import Derived.Test.YtniihihcklpdgaaK
set_option linter.unusedVariables false
set_option linter.unusedSimpArgs false
set_option maxRecDepth 100000
set_option maxHeartbeats 8000000
namespace Go.Proofs.Ytniihihcklpdgaa
open Go Go.RowKit Go.Proofs.AE
variable {G : Nat → AV}
/-- Bytes as rows. -/
def bR (l : List UInt8) : List (List V) := l.map fun b => [.lit (.int .u8 b.toNat)]
theorem bR_app (a b : List UInt8) : bR (a ++ b) = bR a ++ bR b := by simp [bR]
theorem bR_len (a : List UInt8) : (bR a).length = a.length := by simp [bR]
theorem bR_ul (a : List UInt8) : UL 1 (bR a) := by
  intro r hr
  obtain ⟨b, _, rfl⟩ := List.mem_map.1 hr
  rfl
theorem bR_str (s : ByteArray) : AE.strRows s = bR s.data.toList := rfl
theorem bR_bytes : ∀ l : List UInt8, bytesOf (bR l) = some l
  | [] => rfl
  | b :: l => by
    have := bR_bytes l
    unfold bR at this ⊢
    simp only [List.map_cons, bytesOf, AE.byteOf, this]
    simp
def byteAt' (u s : Nat) : UInt8 := UInt8.ofNat (u / 2 ^ s)
def numU (n : Int) : Nat := (n + 4611686018427387904).toNat
def numB (n : Int) : List UInt8 := [byteAt' (numU n) 56, byteAt' (numU n) 48, byteAt' (numU n) 40, byteAt' (numU n) 32, byteAt' (numU n) 24, byteAt' (numU n) 16, byteAt' (numU n) 8, byteAt' (numU n) 0]
def smallB (n : Int) : UInt8 := UInt8.ofNat (n % 256).toNat
def textB (s : ByteArray) : List UInt8 := smallB s.size :: s.data.toList
def cmdB (k : Int) (key field text : ByteArray) (n : Int) : List UInt8 := [smallB k] ++ textB key ++ textB field ++ textB text ++ numB n
def callB (client seq k : Int) (key field text : ByteArray) (n : Int) : List UInt8 := numB client ++ (if 0 < client then numB seq ++ cmdB k key field text n else [])
def itemB (x : Item) : List UInt8 := numB x.term ++ numB x.time ++ (if x.nop then [1] else [0] ++ callB x.client x.seq x.k x.key x.field x.text x.n)
theorem wrap_u8 (n : Int) : IntKind.u8.wrap n = ((smallB n).toNat : Int) := by
  unfold smallB
  have h1 := Int.emod_nonneg n (b := 256) (by omega)
  have h2 := Int.emod_lt_of_pos n (b := 256) (by omega)
  rw [UInt8.toNat_ofNat']
  have h3 : IntKind.u8.wrap n = n % 256 := by
    simp [IntKind.wrap, IntKind.bits, IntKind.signed]
  rw [h3]
  omega
theorem byte_row (u s : Nat) : IntKind.u8.wrap ((u : Int).fdiv (2 ^ s)) = ((byteAt' u s).toNat : Int) := by
  rw [wrap_u8]
  unfold smallB byteAt'
  have h : ((u : Int).fdiv (2 ^ s)) = ((u / 2 ^ s : Nat) : Int) := by
    rw [Int.fdiv_eq_ediv_of_nonneg _ (by exact_mod_cast Nat.zero_le _)]
    push_cast
    rfl
  rw [h]
  congr 1
  have h2 : (((u / 2 ^ s : Nat) : Int) % 256).toNat = (u / 2 ^ s) % 256 := by omega
  rw [h2]
  rw [UInt8.toNat_ofNat', UInt8.toNat_ofNat']
  omega
def inNum (n : Int) : Prop := -4611686018427387904 ≤ n ∧ n < 4611686018427387904
theorem numU_conv {n : Int} (h : inNum n) : IntKind.u64.wrap (IntKind.i64.wrap (n + 4611686018427387904)) = (numU n : Int) := by
  unfold inNum at h
  rw [IntWalk.i64_in _ (by omega)]
  unfold numU
  simp [IntKind.wrap, IntKind.bits, IntKind.signed]
  omega
abbrev wHp (l : List UInt8) : Hp := [some (.box 74 [.ar 1]), some (.arr 5 1 (bR l))]
theorem wsmall_c (l : List UInt8) (n : Int) (hl : l.length ≤ 1000000) : DetCall Try.prog G 44 1 (wHp l) [.one (.ptr 0 0), iV n] (.tup []) (wHp (l ++ [smallB n])) := by
  refine gcall mixed Try.func44 ok_wire_writer_small rs_wire_writer_small (by simp [Try.f44]) ?_
  unfold ac_wire_writer_small
  have h1 := bR_len l
  have h2 := bR_ul l
  have h3 := bR_app l [smallB n]
  have h4 : bR [smallB n] = [[.lit (.int .u8 ((smallB n).toNat : Int))]] := rfl
  unfold wHp
  rw [h3, h4]
  have h5 := wrap_u8 n
  repeat' (first
    | (with_reducible refine Cnd.intro (fun h => ?_) (fun h => ?_))
    | (with_reducible refine And.intro ?_ ?_)
    | (with_reducible refine Wk.refl ?_)
    | (with_reducible exact Weak.refl _ _)
    | (with_reducible refine weak_auto ?_)
    | (with_reducible apply awp_join)
    | (with_reducible refine CallZ.z ?_)
    | (simp -dsimp [go_sem, h1, h2, h5]))
  all_goals first | omega | (simp [UL]; done)
theorem wnumber_c (l : List UInt8) (n : Int) (hl : l.length ≤ 1000000) (hn : inNum n) : DetCall Try.prog G 43 1 (wHp l) [.one (.ptr 0 0), iV n] (.tup []) (wHp (l ++ numB n)) := by
  refine gcall mixed Try.func43 ok_wire_writer_number rs_wire_writer_number (by simp [Try.f43]) ?_
  unfold ac_wire_writer_number
  have hu := numU_conv hn
  unfold wHp
  repeat' (first
    | (with_reducible refine Cnd.intro (fun h => ?_) (fun h => ?_))
    | (with_reducible refine And.intro ?_ ?_)
    | (with_reducible refine Wk.refl ?_)
    | (with_reducible exact Weak.refl _ _)
    | (with_reducible refine weak_auto ?_)
    | (with_reducible apply awp_join)
    | (with_reducible refine CallZ.z ?_)
    | (simp -dsimp [go_sem, hu]))
  refine awp_loop (fun j : Nat => ⟨[(0, .one (.ptr 0 0)), (4, .one (.v (.lit (.int .u64 (numU n))))), (5, iV (56 - 8 * j))], G, wHp (l ++ (numB n).take j)⟩) (fun j => j ≤ 8) (fun j => 8 - j) 0 (weak_auto ?_) (Nat.zero_le _) ?_
  · unfold wHp
    simp -dsimp [go_sem]
  · intro j hj
    have h1 := bR_len (l ++ (numB n).take j)
    have h2 := bR_ul (l ++ (numB n).take j)
    have hlen : (l ++ (numB n).take j).length ≤ 1000008 := by simp; omega
    unfold wHp
    simp -dsimp [go_sem]
    refine Cnd.intro (fun h => ?_) (fun h => ?_)
    · have hlt : j < 8 := by simp at h; omega
      have e1 : IntKind.i64.wrap (56 - 8 * (j : Int) - 8) = 56 - 8 * ((j + 1 : Nat) : Int) := by rw [IntWalk.i64_in _ (by omega)]; omega
      have e2 : IntKind.u8.wrap ((numU n : Int).fdiv (2 ^ min (56 - 8 * (j : Int)).toNat 64)) = ((byteAt' (numU n) (56 - 8 * j)).toNat : Int) := by
        rw [show min (56 - 8 * (j : Int)).toNat 64 = 56 - 8 * j by omega]; exact byte_row _ _
      have e3 : bR (l ++ (numB n).take (j + 1)) = bR (l ++ (numB n).take j) ++ [[.lit (.int .u8 ((byteAt' (numU n) (56 - 8 * j)).toNat : Int))]] := by
        have : (numB n).take (j + 1) = (numB n).take j ++ [byteAt' (numU n) (56 - 8 * j)] := by
          have hc : j = 0 ∨ j = 1 ∨ j = 2 ∨ j = 3 ∨ j = 4 ∨ j = 5 ∨ j = 6 ∨ j = 7 := by omega
          rcases hc with rfl | rfl | rfl | rfl | rfl | rfl | rfl | rfl <;> rfl
        rw [this, ← List.append_assoc, bR_app]; rfl
      repeat' (first
    | (with_reducible refine Cnd.intro (fun h => ?_) (fun h => ?_))
    | (with_reducible refine And.intro ?_ ?_)
    | (with_reducible refine Wk.refl ?_)
    | (with_reducible exact Weak.refl _ _)
    | (with_reducible refine weak_auto ?_)
    | (with_reducible apply awp_join)
    | (with_reducible refine CallZ.z ?_)
    | (simp -dsimp [go_sem, h1, h2, e1, e2]))
      all_goals first | omega | (with_reducible refine Again.auto (j + 1) ?_ ?_ ?_) | (simp [UL]; done) | skip
      · simp -dsimp [go_sem, e3]
      · exact hlt
      · show 8 - (j + 1) < 8 - j
        omega
    · have hj8 : j = 8 := by simp at h; omega
      subst hj8
      have e3 : (numB n).take 8 = numB n := rfl
      rw [e3]
      simp -dsimp [go_sem]
theorem wtext_c (l : List UInt8) (t : ByteArray) (hl : l.length ≤ 900000) (ht : t.size ≤ 1000) : DetCall Try.prog G 57 1 (wHp l) [.one (.ptr 0 0), sV t] (.tup []) (wHp (l ++ textB t)) := by
  refine gcall mixed Try.func57 ok_wire_writer_text rs_wire_writer_text (by simp [Try.f57]) ?_
  unfold ac_wire_writer_text
  have h1 := bR_len (l ++ [smallB t.size])
  have h2 := bR_ul (l ++ [smallB t.size])
  have h3 : bR (l ++ textB t) = bR (l ++ [smallB t.size]) ++ bR t.data.toList := by rw [← bR_app]; simp [textB]
  have h4 := bR_ul t.data.toList
  have h5 := bR_len t.data.toList
  have h6 : t.data.toList.length = t.size := by rw [Array.length_toList]; rfl
  have h7 : (l ++ [smallB t.size]).length ≤ 900001 := by simp; omega
  unfold wHp
  rw [h3]
  repeat' (first
    | (with_reducible refine Cnd.intro (fun h => ?_) (fun h => ?_))
    | (with_reducible refine And.intro ?_ ?_)
    | (with_reducible refine Wk.refl ?_)
    | (with_reducible exact Weak.refl _ _)
    | (with_reducible refine weak_auto ?_)
    | (with_reducible apply awp_join)
    | ((with_reducible refine CallZ.l (DetCall.kg (wsmall_c l _ (by omega)) (by with_unfolding_all rfl) (by with_unfolding_all rfl) (by with_unfolding_all rfl) ?_)); rotate_right; rintro zr1 zh1 zq1 zq2; (try simp -dsimp [go_sem] at zq1 zq2); obtain ⟨rfl⟩ := zq1; obtain ⟨rfl⟩ := zq2)
    | ((with_reducible refine DetCall.kg (wsmall_c l _ (by omega)) (by with_unfolding_all rfl) (by with_unfolding_all rfl) (by with_unfolding_all rfl) ?_); rotate_right; rintro zr1 zh1 zq1 zq2; (try simp -dsimp [go_sem] at zq1 zq2); obtain ⟨rfl⟩ := zq1; obtain ⟨rfl⟩ := zq2)
    | ((with_reducible refine DetCall.dg (wsmall_c l _ (by omega)) (by with_unfolding_all rfl) (by with_unfolding_all rfl) (by with_unfolding_all rfl) ?_); rotate_right; rintro zr1 zh1 zq1 zq2; (try simp -dsimp [go_sem] at zq1 zq2); obtain ⟨rfl⟩ := zq1; obtain ⟨rfl⟩ := zq2)
    | (with_reducible refine CallZ.z ?_)
    | (simp -dsimp [go_sem, h1, h2, h4, h5, bR_str]))
  all_goals omega
theorem textB_len (t : ByteArray) : (textB t).length = t.size + 1 := by unfold textB; rw [List.length_cons, Array.length_toList]; rfl
theorem numB_len (n : Int) : (numB n).length = 8 := rfl
theorem wcommand_c (l : List UInt8) (k : Int) (key field text : ByteArray) (n : Int) (hl : l.length ≤ 800000) (h1 : key.size ≤ 1000) (h2 : field.size ≤ 1000) (h3 : text.size ≤ 1000) (hn : inNum n) :
    DetCall Try.prog G 51 1 (wHp l) [.one (.ptr 0 0), .agg [iC k, sC key, sC field, sC text, iC n]] (.tup []) (wHp (l ++ cmdB k key field text n)) := by
  refine gcall mixed Try.func51 ok_wire_writer_command rs_wire_writer_command (by simp [Try.f51]) ?_
  unfold ac_wire_writer_command
  have hf : l ++ cmdB k key field text n = l ++ [smallB k] ++ textB key ++ textB field ++ textB text ++ numB n := by simp [cmdB]
  rw [hf]
  unfold wHp
  repeat' (first
    | (with_reducible refine Cnd.intro (fun h => ?_) (fun h => ?_))
    | (with_reducible refine And.intro ?_ ?_)
    | (with_reducible refine Wk.refl ?_)
    | (with_reducible exact Weak.refl _ _)
    | (with_reducible refine weak_auto ?_)
    | (with_reducible apply awp_join)
    | ((with_reducible refine CallZ.l (DetCall.kg (wsmall_c _ _ ?_) (by with_unfolding_all rfl) (by with_unfolding_all rfl) (by with_unfolding_all rfl) ?_)); rotate_right; rintro zr1 zh1 zq1 zq2; (try simp -dsimp [go_sem] at zq1 zq2); obtain ⟨rfl⟩ := zq1; obtain ⟨rfl⟩ := zq2)
    | ((with_reducible refine DetCall.kg (wsmall_c _ _ ?_) (by with_unfolding_all rfl) (by with_unfolding_all rfl) (by with_unfolding_all rfl) ?_); rotate_right; rintro zr1 zh1 zq1 zq2; (try simp -dsimp [go_sem] at zq1 zq2); obtain ⟨rfl⟩ := zq1; obtain ⟨rfl⟩ := zq2)
    | ((with_reducible refine DetCall.dg (wsmall_c _ _ ?_) (by with_unfolding_all rfl) (by with_unfolding_all rfl) (by with_unfolding_all rfl) ?_); rotate_right; rintro zr1 zh1 zq1 zq2; (try simp -dsimp [go_sem] at zq1 zq2); obtain ⟨rfl⟩ := zq1; obtain ⟨rfl⟩ := zq2)
    | ((with_reducible refine CallZ.l (DetCall.kg (wtext_c _ _ ?_ ?_) (by with_unfolding_all rfl) (by with_unfolding_all rfl) (by with_unfolding_all rfl) ?_)); rotate_right; rintro zr1 zh1 zq1 zq2; (try simp -dsimp [go_sem] at zq1 zq2); obtain ⟨rfl⟩ := zq1; obtain ⟨rfl⟩ := zq2)
    | ((with_reducible refine DetCall.kg (wtext_c _ _ ?_ ?_) (by with_unfolding_all rfl) (by with_unfolding_all rfl) (by with_unfolding_all rfl) ?_); rotate_right; rintro zr1 zh1 zq1 zq2; (try simp -dsimp [go_sem] at zq1 zq2); obtain ⟨rfl⟩ := zq1; obtain ⟨rfl⟩ := zq2)
    | ((with_reducible refine DetCall.dg (wtext_c _ _ ?_ ?_) (by with_unfolding_all rfl) (by with_unfolding_all rfl) (by with_unfolding_all rfl) ?_); rotate_right; rintro zr1 zh1 zq1 zq2; (try simp -dsimp [go_sem] at zq1 zq2); obtain ⟨rfl⟩ := zq1; obtain ⟨rfl⟩ := zq2)
    | ((with_reducible refine CallZ.l (DetCall.kg (wnumber_c _ _ ?_ ?_) (by with_unfolding_all rfl) (by with_unfolding_all rfl) (by with_unfolding_all rfl) ?_)); rotate_right; rintro zr1 zh1 zq1 zq2; (try simp -dsimp [go_sem] at zq1 zq2); obtain ⟨rfl⟩ := zq1; obtain ⟨rfl⟩ := zq2)
    | ((with_reducible refine DetCall.kg (wnumber_c _ _ ?_ ?_) (by with_unfolding_all rfl) (by with_unfolding_all rfl) (by with_unfolding_all rfl) ?_); rotate_right; rintro zr1 zh1 zq1 zq2; (try simp -dsimp [go_sem] at zq1 zq2); obtain ⟨rfl⟩ := zq1; obtain ⟨rfl⟩ := zq2)
    | ((with_reducible refine DetCall.dg (wnumber_c _ _ ?_ ?_) (by with_unfolding_all rfl) (by with_unfolding_all rfl) (by with_unfolding_all rfl) ?_); rotate_right; rintro zr1 zh1 zq1 zq2; (try simp -dsimp [go_sem] at zq1 zq2); obtain ⟨rfl⟩ := zq1; obtain ⟨rfl⟩ := zq2)
    | (with_reducible refine CallZ.z ?_)
    | (simp -dsimp [go_sem]))
  all_goals first | assumption | omega | (simp [textB_len]; omega)
theorem wcall_c (l : List UInt8) (client seq k : Int) (key field text : ByteArray) (n : Int) (hl : l.length ≤ 700000) (h1 : key.size ≤ 1000) (h2 : field.size ≤ 1000) (h3 : text.size ≤ 1000) (hn : inNum n) (hc : inNum client) (hs : inNum seq) :
    DetCall Try.prog G 45 1 (wHp l) [.one (.ptr 0 0), .agg [iC client, iC seq, iC k, sC key, sC field, sC text, iC n]] (.tup []) (wHp (l ++ callB client seq k key field text n)) := by
  refine gcall mixed Try.func45 ok_wire_writer_call rs_wire_writer_call (by simp [Try.f45]) ?_
  unfold ac_wire_writer_call
  unfold wHp
  by_cases h0 : 0 < client
  · have hf : l ++ callB client seq k key field text n = l ++ numB client ++ numB seq ++ cmdB k key field text n := by simp [callB, h0]
    rw [hf]
    repeat' (first
    | (with_reducible refine Cnd.intro (fun h => ?_) (fun h => ?_))
    | (with_reducible refine And.intro ?_ ?_)
    | (with_reducible refine Wk.refl ?_)
    | (with_reducible exact Weak.refl _ _)
    | (with_reducible refine weak_auto ?_)
    | (with_reducible apply awp_join)
    | ((with_reducible refine CallZ.l (DetCall.kg (wnumber_c _ _ ?_ ?_) (by with_unfolding_all rfl) (by with_unfolding_all rfl) (by with_unfolding_all rfl) ?_)); rotate_right; rintro zr1 zh1 zq1 zq2; (try simp -dsimp [go_sem] at zq1 zq2); obtain ⟨rfl⟩ := zq1; obtain ⟨rfl⟩ := zq2)
    | ((with_reducible refine DetCall.kg (wnumber_c _ _ ?_ ?_) (by with_unfolding_all rfl) (by with_unfolding_all rfl) (by with_unfolding_all rfl) ?_); rotate_right; rintro zr1 zh1 zq1 zq2; (try simp -dsimp [go_sem] at zq1 zq2); obtain ⟨rfl⟩ := zq1; obtain ⟨rfl⟩ := zq2)
    | ((with_reducible refine DetCall.dg (wnumber_c _ _ ?_ ?_) (by with_unfolding_all rfl) (by with_unfolding_all rfl) (by with_unfolding_all rfl) ?_); rotate_right; rintro zr1 zh1 zq1 zq2; (try simp -dsimp [go_sem] at zq1 zq2); obtain ⟨rfl⟩ := zq1; obtain ⟨rfl⟩ := zq2)
    | ((with_reducible refine CallZ.l (DetCall.kg (wcommand_c _ _ _ _ _ _ ?_ ?_ ?_ ?_ ?_) (by with_unfolding_all rfl) (by with_unfolding_all rfl) (by with_unfolding_all rfl) ?_)); rotate_right; rintro zr1 zh1 zq1 zq2; (try simp -dsimp [go_sem] at zq1 zq2); obtain ⟨rfl⟩ := zq1; obtain ⟨rfl⟩ := zq2)
    | ((with_reducible refine DetCall.kg (wcommand_c _ _ _ _ _ _ ?_ ?_ ?_ ?_ ?_) (by with_unfolding_all rfl) (by with_unfolding_all rfl) (by with_unfolding_all rfl) ?_); rotate_right; rintro zr1 zh1 zq1 zq2; (try simp -dsimp [go_sem] at zq1 zq2); obtain ⟨rfl⟩ := zq1; obtain ⟨rfl⟩ := zq2)
    | ((with_reducible refine DetCall.dg (wcommand_c _ _ _ _ _ _ ?_ ?_ ?_ ?_ ?_) (by with_unfolding_all rfl) (by with_unfolding_all rfl) (by with_unfolding_all rfl) ?_); rotate_right; rintro zr1 zh1 zq1 zq2; (try simp -dsimp [go_sem] at zq1 zq2); obtain ⟨rfl⟩ := zq1; obtain ⟨rfl⟩ := zq2)
    | (with_reducible refine CallZ.z ?_)
    | (simp -dsimp [go_sem, h0]))
    all_goals first | assumption | omega | (simp [numB_len]; omega)
  · have hf : l ++ callB client seq k key field text n = l ++ numB client := by simp [callB, h0]
    rw [hf]
    repeat' (first
    | (with_reducible refine Cnd.intro (fun h => ?_) (fun h => ?_))
    | (with_reducible refine And.intro ?_ ?_)
    | (with_reducible refine Wk.refl ?_)
    | (with_reducible exact Weak.refl _ _)
    | (with_reducible refine weak_auto ?_)
    | (with_reducible apply awp_join)
    | ((with_reducible refine CallZ.l (DetCall.kg (wnumber_c _ _ ?_ ?_) (by with_unfolding_all rfl) (by with_unfolding_all rfl) (by with_unfolding_all rfl) ?_)); rotate_right; rintro zr1 zh1 zq1 zq2; (try simp -dsimp [go_sem] at zq1 zq2); obtain ⟨rfl⟩ := zq1; obtain ⟨rfl⟩ := zq2)
    | ((with_reducible refine DetCall.kg (wnumber_c _ _ ?_ ?_) (by with_unfolding_all rfl) (by with_unfolding_all rfl) (by with_unfolding_all rfl) ?_); rotate_right; rintro zr1 zh1 zq1 zq2; (try simp -dsimp [go_sem] at zq1 zq2); obtain ⟨rfl⟩ := zq1; obtain ⟨rfl⟩ := zq2)
    | ((with_reducible refine DetCall.dg (wnumber_c _ _ ?_ ?_) (by with_unfolding_all rfl) (by with_unfolding_all rfl) (by with_unfolding_all rfl) ?_); rotate_right; rintro zr1 zh1 zq1 zq2; (try simp -dsimp [go_sem] at zq1 zq2); obtain ⟨rfl⟩ := zq1; obtain ⟨rfl⟩ := zq2)
    | (with_reducible refine CallZ.z ?_)
    | (simp -dsimp [go_sem, h0]))
    all_goals first | assumption | omega | (simp [numB_len]; omega)
theorem witem_c (l : List UInt8) (x : Item) (hl : l.length ≤ 600000) (h1 : x.key.size ≤ 1000) (h2 : x.field.size ≤ 1000) (h3 : x.text.size ≤ 1000) (hn : inNum x.n) (hc : inNum x.client) (hs : inNum x.seq) (ht : inNum x.term) (hm : inNum x.time) :
    DetCall Try.prog G 34 1 (wHp l) [.one (.ptr 0 0), .agg (x.row.map .v)] (.tup []) (wHp (l ++ itemB x)) := by
  refine gcall mixed Try.func34 ok_wire_writer_item rs_wire_writer_item (by simp [Try.f34]) ?_
  unfold ac_wire_writer_item
  unfold wHp
  have h10 : smallB 1 = 1 := by decide
  have h00 : smallB 0 = 0 := by decide
  cases hx : x.nop
  · have hf : l ++ itemB x = l ++ numB x.term ++ numB x.time ++ [smallB 0] ++ callB x.client x.seq x.k x.key x.field x.text x.n := by simp [itemB, hx, h00]
    rw [hf]
    repeat' (first
    | (with_reducible refine Cnd.intro (fun h => ?_) (fun h => ?_))
    | (with_reducible refine And.intro ?_ ?_)
    | (with_reducible refine Wk.refl ?_)
    | (with_reducible exact Weak.refl _ _)
    | (with_reducible refine weak_auto ?_)
    | (with_reducible apply awp_join)
    | ((with_reducible refine CallZ.l (DetCall.kg (wnumber_c _ _ ?_ ?_) (by with_unfolding_all rfl) (by with_unfolding_all rfl) (by with_unfolding_all rfl) ?_)); rotate_right; rintro zr1 zh1 zq1 zq2; (try simp -dsimp [go_sem] at zq1 zq2); obtain ⟨rfl⟩ := zq1; obtain ⟨rfl⟩ := zq2)
    | ((with_reducible refine DetCall.kg (wnumber_c _ _ ?_ ?_) (by with_unfolding_all rfl) (by with_unfolding_all rfl) (by with_unfolding_all rfl) ?_); rotate_right; rintro zr1 zh1 zq1 zq2; (try simp -dsimp [go_sem] at zq1 zq2); obtain ⟨rfl⟩ := zq1; obtain ⟨rfl⟩ := zq2)
    | ((with_reducible refine DetCall.dg (wnumber_c _ _ ?_ ?_) (by with_unfolding_all rfl) (by with_unfolding_all rfl) (by with_unfolding_all rfl) ?_); rotate_right; rintro zr1 zh1 zq1 zq2; (try simp -dsimp [go_sem] at zq1 zq2); obtain ⟨rfl⟩ := zq1; obtain ⟨rfl⟩ := zq2)
    | ((with_reducible refine CallZ.l (DetCall.kg (wsmall_c _ _ ?_) (by with_unfolding_all rfl) (by with_unfolding_all rfl) (by with_unfolding_all rfl) ?_)); rotate_right; rintro zr1 zh1 zq1 zq2; (try simp -dsimp [go_sem] at zq1 zq2); obtain ⟨rfl⟩ := zq1; obtain ⟨rfl⟩ := zq2)
    | ((with_reducible refine DetCall.kg (wsmall_c _ _ ?_) (by with_unfolding_all rfl) (by with_unfolding_all rfl) (by with_unfolding_all rfl) ?_); rotate_right; rintro zr1 zh1 zq1 zq2; (try simp -dsimp [go_sem] at zq1 zq2); obtain ⟨rfl⟩ := zq1; obtain ⟨rfl⟩ := zq2)
    | ((with_reducible refine DetCall.dg (wsmall_c _ _ ?_) (by with_unfolding_all rfl) (by with_unfolding_all rfl) (by with_unfolding_all rfl) ?_); rotate_right; rintro zr1 zh1 zq1 zq2; (try simp -dsimp [go_sem] at zq1 zq2); obtain ⟨rfl⟩ := zq1; obtain ⟨rfl⟩ := zq2)
    | ((with_reducible refine CallZ.l (DetCall.kg (wcall_c _ _ _ _ _ _ _ _ ?_ ?_ ?_ ?_ ?_ ?_ ?_) (by with_unfolding_all rfl) (by with_unfolding_all rfl) (by with_unfolding_all rfl) ?_)); rotate_right; rintro zr1 zh1 zq1 zq2; (try simp -dsimp [go_sem] at zq1 zq2); obtain ⟨rfl⟩ := zq1; obtain ⟨rfl⟩ := zq2)
    | ((with_reducible refine DetCall.kg (wcall_c _ _ _ _ _ _ _ _ ?_ ?_ ?_ ?_ ?_ ?_ ?_) (by with_unfolding_all rfl) (by with_unfolding_all rfl) (by with_unfolding_all rfl) ?_); rotate_right; rintro zr1 zh1 zq1 zq2; (try simp -dsimp [go_sem] at zq1 zq2); obtain ⟨rfl⟩ := zq1; obtain ⟨rfl⟩ := zq2)
    | ((with_reducible refine DetCall.dg (wcall_c _ _ _ _ _ _ _ _ ?_ ?_ ?_ ?_ ?_ ?_ ?_) (by with_unfolding_all rfl) (by with_unfolding_all rfl) (by with_unfolding_all rfl) ?_); rotate_right; rintro zr1 zh1 zq1 zq2; (try simp -dsimp [go_sem] at zq1 zq2); obtain ⟨rfl⟩ := zq1; obtain ⟨rfl⟩ := zq2)
    | (with_reducible refine CallZ.z ?_)
    | (simp -dsimp [go_sem, hx, Item.row]))
    all_goals first | assumption | omega | (simp [numB_len]; omega)
  · have hf : l ++ itemB x = l ++ numB x.term ++ numB x.time ++ [smallB 1] := by simp [itemB, hx, h10]
    rw [hf]
    repeat' (first
    | (with_reducible refine Cnd.intro (fun h => ?_) (fun h => ?_))
    | (with_reducible refine And.intro ?_ ?_)
    | (with_reducible refine Wk.refl ?_)
    | (with_reducible exact Weak.refl _ _)
    | (with_reducible refine weak_auto ?_)
    | (with_reducible apply awp_join)
    | ((with_reducible refine CallZ.l (DetCall.kg (wnumber_c _ _ ?_ ?_) (by with_unfolding_all rfl) (by with_unfolding_all rfl) (by with_unfolding_all rfl) ?_)); rotate_right; rintro zr1 zh1 zq1 zq2; (try simp -dsimp [go_sem] at zq1 zq2); obtain ⟨rfl⟩ := zq1; obtain ⟨rfl⟩ := zq2)
    | ((with_reducible refine DetCall.kg (wnumber_c _ _ ?_ ?_) (by with_unfolding_all rfl) (by with_unfolding_all rfl) (by with_unfolding_all rfl) ?_); rotate_right; rintro zr1 zh1 zq1 zq2; (try simp -dsimp [go_sem] at zq1 zq2); obtain ⟨rfl⟩ := zq1; obtain ⟨rfl⟩ := zq2)
    | ((with_reducible refine DetCall.dg (wnumber_c _ _ ?_ ?_) (by with_unfolding_all rfl) (by with_unfolding_all rfl) (by with_unfolding_all rfl) ?_); rotate_right; rintro zr1 zh1 zq1 zq2; (try simp -dsimp [go_sem] at zq1 zq2); obtain ⟨rfl⟩ := zq1; obtain ⟨rfl⟩ := zq2)
    | ((with_reducible refine CallZ.l (DetCall.kg (wsmall_c _ _ ?_) (by with_unfolding_all rfl) (by with_unfolding_all rfl) (by with_unfolding_all rfl) ?_)); rotate_right; rintro zr1 zh1 zq1 zq2; (try simp -dsimp [go_sem] at zq1 zq2); obtain ⟨rfl⟩ := zq1; obtain ⟨rfl⟩ := zq2)
    | ((with_reducible refine DetCall.kg (wsmall_c _ _ ?_) (by with_unfolding_all rfl) (by with_unfolding_all rfl) (by with_unfolding_all rfl) ?_); rotate_right; rintro zr1 zh1 zq1 zq2; (try simp -dsimp [go_sem] at zq1 zq2); obtain ⟨rfl⟩ := zq1; obtain ⟨rfl⟩ := zq2)
    | ((with_reducible refine DetCall.dg (wsmall_c _ _ ?_) (by with_unfolding_all rfl) (by with_unfolding_all rfl) (by with_unfolding_all rfl) ?_); rotate_right; rintro zr1 zh1 zq1 zq2; (try simp -dsimp [go_sem] at zq1 zq2); obtain ⟨rfl⟩ := zq1; obtain ⟨rfl⟩ := zq2)
    | (with_reducible refine CallZ.z ?_)
    | (simp -dsimp [go_sem, hx, Item.row]))
    all_goals first | assumption | omega | (simp [numB_len]; omega)
/-- What a command that may be has. -/
theorem cmd_bounds {k : Int} {a b c : ByteArray} {n : Int} (hc : checkCommand k a b c n = 0) : 1 ≤ k ∧ k ≤ 22 ∧ a.size ≤ 12 ∧ b.size ≤ 12 ∧ c.size ≤ 20 ∧ -1099511627776 ≤ n ∧ n ≤ 1099511627776 := by
  have hz : (⟨#[]⟩ : ByteArray).size = 0 := rfl
  unfold checkCommand at hc
  repeat' split at hc
  all_goals first | (cases hc; done) | skip
  rename_i h1 h2 h3 h4 h5
  simp only [Bool.not_eq_false] at h3 h5
  simp only [formOk, okCount, okText, okField, Bool.and_eq_true, Bool.or_eq_true, Bool.not_eq_true', decide_eq_true_eq, bne_iff_ne, ne_eq, beq_iff_eq, decide_eq_false_iff_not, Bool.and_eq_false_iff, not_or, not_and, Decidable.not_not] at h3 h4 h5
  obtain ⟨⟨⟨q1, q2⟩, q3⟩, q4⟩ := h3
  obtain ⟨⟨p1, p2⟩, p3⟩ := h4
  refine ⟨by omega, by omega, ?_, ?_, by omega, h5.1, h5.2⟩
  · rcases q1 with q | q
    · have := p1 q; omega
    · rw [q, hz]; omega
  · rcases q2 with q | q
    · have := p2 q; omega
    · rw [q, hz]; omega
theorem noCall_iff {client seq k : Int} {a b c : ByteArray} {n : Int} : noCall client seq k a b c n = true ↔ client = 0 ∧ seq = 0 ∧ k = 0 ∧ a = ⟨#[]⟩ ∧ b = ⟨#[]⟩ ∧ c = ⟨#[]⟩ ∧ n = 0 := by
  simp [noCall]
/-- What a call that may be has. -/
theorem call_bounds {client seq k : Int} {a b c : ByteArray} {n : Int} (h : checkCall client seq k a b c n = 0) :
    (client = 0 ∧ seq = 0 ∧ k = 0 ∧ a = ⟨#[]⟩ ∧ b = ⟨#[]⟩ ∧ c = ⟨#[]⟩ ∧ n = 0) ∨ (1 ≤ client ∧ client ≤ 1048576 ∧ 1 ≤ seq ∧ seq ≤ 1048576 ∧ checkCommand k a b c n = 0) := by
  unfold checkCall at h
  split at h
  · rename_i h0
    left
    split at h
    · rename_i h1
      simp only [decide_eq_true_eq] at h0
      simp only [Bool.and_eq_true, beq_iff_eq, decide_eq_true_eq] at h1
      exact ⟨h0, h1⟩
    · cases h
  · split at h
    · rename_i h1
      split at h
      · rename_i h2
        right
        simp only [okNumber, Bool.and_eq_true, decide_eq_true_eq] at h1 h2
        exact ⟨h1.1, h1.2, h2.1, h2.2, h⟩
      · cases h
    · cases h
/-- What an item that may be has. -/
theorem item_ok {x : Item} (h : x.check = 0) : 1 ≤ x.term ∧ x.term ≤ 1048576 ∧ 0 ≤ x.time ∧ x.time ≤ 1073741824 ∧ (x.nop = true → x.client = 0) ∧
    ((x.client = 0 ∧ x.seq = 0 ∧ x.k = 0 ∧ x.key = ⟨#[]⟩ ∧ x.field = ⟨#[]⟩ ∧ x.text = ⟨#[]⟩ ∧ x.n = 0) ∨ (1 ≤ x.client ∧ x.client ≤ 1048576 ∧ 1 ≤ x.seq ∧ x.seq ≤ 1048576 ∧ checkCommand x.k x.key x.field x.text x.n = 0)) := by
  unfold Item.check checkItem at h
  simp only [decide_eq_true_eq] at h
  by_cases h1 : x.term < 1
  · simp [h1] at h
  by_cases h2 : 1048576 < x.term
  · simp [h1, h2] at h
  by_cases h3 : x.time < 0
  · simp [h1, h2, h3] at h
  by_cases h4 : 1073741824 < x.time
  · simp [h1, h2, h3, h4] at h
  simp only [h1, h2, h3, h4, if_false] at h
  refine ⟨by omega, by omega, by omega, by omega, ?_⟩
  cases hx : x.nop
  · rw [hx] at h
    exact ⟨fun h => (by cases h), call_bounds (by simpa using h)⟩
  · rw [hx] at h
    simp only [if_true] at h
    split at h
    · rename_i hn
      have := noCall_iff.1 hn
      exact ⟨fun _ => this.1, .inl this⟩
    · cases h
theorem item_bounds {x : Item} (h : x.check = 0) : x.key.size ≤ 1000 ∧ x.field.size ≤ 1000 ∧ x.text.size ≤ 1000 ∧ inNum x.n ∧ inNum x.client ∧ inNum x.seq ∧ inNum x.term ∧ inNum x.time := by
  obtain ⟨h1, h2, h3, h4, _, h5⟩ := item_ok h
  have hz : (⟨#[]⟩ : ByteArray).size = 0 := rfl
  unfold inNum
  rcases h5 with ⟨a, b, c, d, e, f, g⟩ | ⟨a, b, c, d, e⟩
  · rw [a, b, d, e, f, g, hz]; omega
  · have := cmd_bounds e; omega
theorem encodeItem_c (x : Item) (h : x.check = 0) : PCall Try.prog G 18 [.agg (x.row.map .v)] (.tup [.one (.v (.sl (bR (itemB x)))), iV 0]) := by
  obtain ⟨h1, h2, h3, h4, h5, h6, h7, h8⟩ := item_bounds h
  have hc : PCall Try.prog G 32 [.agg (x.row.map .v)] (iV 0) := by
    have := checkItem_c (G := G) x.term x.time x.nop x.client x.seq x.k x.key x.field x.text x.n
    rw [show checkItem x.term x.time x.nop x.client x.seq x.k x.key x.field x.text x.n = 0 from h] at this
    exact this
  have hw := witem_c (G := G) [] x (by simp) h1 h2 h3 h4 h5 h6 h7 h8
  simp only [Item.row, List.map_cons, List.map_nil, List.nil_append] at hc hw ⊢
  refine pcall mixed Try.func18 ok_wire_EncodeItem rs_wire_EncodeItem (by simp [Try.f18]) ?_
  unfold ac_wire_EncodeItem
  repeat' (first
    | (with_reducible refine Cnd.intro (fun h => ?_) (fun h => ?_))
    | (with_reducible refine And.intro ?_ ?_)
    | (with_reducible refine Wk.refl ?_)
    | (with_reducible exact Weak.refl _ _)
    | (with_reducible refine weak_auto ?_)
    | (with_reducible apply awp_join)
    | (with_reducible refine CallZ.l (PCall.kf (hc) ?_ ?_))
    | (with_reducible refine PCall.kf (hc) ?_ ?_)
    | (with_reducible refine PCall.df (hc) ?_ ?_)
    | (refine CallZ.l (CallK.thaw 1 0 5 1 rfl rfl (by decide) ?_); simp -dsimp [go_sem])
    | ((with_reducible refine CallZ.l (DetCall.kg (hw) (by with_unfolding_all rfl) (by with_unfolding_all rfl) (by with_unfolding_all rfl) ?_)); rotate_right; rintro zr1 zh1 zq1 zq2; (try simp -dsimp [go_sem] at zq1 zq2); obtain ⟨rfl⟩ := zq1; obtain ⟨rfl⟩ := zq2)
    | ((with_reducible refine DetCall.kg (hw) (by with_unfolding_all rfl) (by with_unfolding_all rfl) (by with_unfolding_all rfl) ?_); rotate_right; rintro zr1 zh1 zq1 zq2; (try simp -dsimp [go_sem] at zq1 zq2); obtain ⟨rfl⟩ := zq1; obtain ⟨rfl⟩ := zq2)
    | ((with_reducible refine DetCall.dg (hw) (by with_unfolding_all rfl) (by with_unfolding_all rfl) (by with_unfolding_all rfl) ?_); rotate_right; rintro zr1 zh1 zq1 zq2; (try simp -dsimp [go_sem] at zq1 zq2); obtain ⟨rfl⟩ := zq1; obtain ⟨rfl⟩ := zq2)
    | (with_reducible refine CallZ.l (PCall.kn (hc) (by with_unfolding_all rfl) (by with_unfolding_all rfl) ?_))
    | (with_reducible refine PCall.kn (hc) (by with_unfolding_all rfl) (by with_unfolding_all rfl) ?_)
    | (with_reducible refine PCall.dn (hc) (by with_unfolding_all rfl) (by with_unfolding_all rfl) ?_)
    | ((with_reducible refine PCall.dz (hc) (by with_unfolding_all rfl) (by with_unfolding_all rfl) ?_); rotate_right; rintro zh1 zq1; (try simp -dsimp [go_sem] at zq1); obtain ⟨rfl⟩ := zq1)
    | (with_reducible refine CallZ.z ?_)
    | (simp -dsimp [go_sem]))
end Go.Proofs.Ytniihihcklpdgaa
