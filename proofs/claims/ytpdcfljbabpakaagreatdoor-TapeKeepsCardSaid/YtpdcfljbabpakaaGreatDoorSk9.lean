/- Texts joined. -/
import Derived.Test.YtpdcfljbabpakaaGreatDoorSk8
set_option linter.unusedVariables false
set_option linter.unusedSimpArgs false
set_option maxRecDepth 100000
set_option maxHeartbeats 8000000
namespace Go.Proofs.YtpdcfljbabpakaaGreatDoor
open Go Go.RowKit Go.Proofs.AE
variable {G : Nat → AV}
def bR (l : List UInt8) : List (List V) := l.map fun b => [.lit (.int .u8 b.toNat)]
theorem bR_app (a b : List UInt8) : bR (a ++ b) = bR a ++ bR b := by simp [bR]
theorem bR_len (a : List UInt8) : (bR a).length = a.length := by simp [bR]
theorem bR_ul (a : List UInt8) : UL 1 (bR a) := by
  intro r hr
  obtain ⟨b, _, rfl⟩ := List.mem_map.1 hr
  rfl
theorem bR_str (s : ByteArray) : AE.strRows s = bR s.data.toList := rfl
theorem bR_bytes : ∀ l : List UInt8, bytesOf (bR l) = some l
  | [] => rfl
  | b :: l => by
    have := bR_bytes l
    unfold bR at this ⊢
    simp only [List.map_cons, bytesOf, AE.byteOf, this]
    simp
def byteAt' (u s : Nat) : UInt8 := UInt8.ofNat (u / 2 ^ s)
def numU (n : Int) : Nat := (n + 4611686018427387904).toNat
def numB (n : Int) : List UInt8 := [byteAt' (numU n) 56, byteAt' (numU n) 48, byteAt' (numU n) 40, byteAt' (numU n) 32, byteAt' (numU n) 24, byteAt' (numU n) 16, byteAt' (numU n) 8, byteAt' (numU n) 0]
def smallB (n : Int) : UInt8 := UInt8.ofNat (n % 256).toNat
def textB (s : ByteArray) : List UInt8 := smallB s.size :: s.data.toList
theorem wrap_u8 (n : Int) : IntKind.u8.wrap n = ((smallB n).toNat : Int) := by
  unfold smallB
  have h1 := Int.emod_nonneg n (b := 256) (by omega)
  have h2 := Int.emod_lt_of_pos n (b := 256) (by omega)
  rw [UInt8.toNat_ofNat']
  have h3 : IntKind.u8.wrap n = n % 256 := by
    simp [IntKind.wrap, IntKind.bits, IntKind.signed]
  rw [h3]
  omega
theorem byte_row (u s : Nat) : IntKind.u8.wrap ((u : Int).fdiv (2 ^ s)) = ((byteAt' u s).toNat : Int) := by
  rw [wrap_u8]
  unfold smallB byteAt'
  have h : ((u : Int).fdiv (2 ^ s)) = ((u / 2 ^ s : Nat) : Int) := by
    rw [Int.fdiv_eq_ediv_of_nonneg _ (by exact_mod_cast Nat.zero_le _)]
    push_cast
    rfl
  rw [h]
  congr 1
  have h2 : (((u / 2 ^ s : Nat) : Int) % 256).toNat = (u / 2 ^ s) % 256 := by omega
  rw [h2]
  rw [UInt8.toNat_ofNat', UInt8.toNat_ofNat']
  omega
def inNum (n : Int) : Prop := -4611686018427387904 ≤ n ∧ n < 4611686018427387904
theorem numU_conv {n : Int} (h : inNum n) : IntKind.u64.wrap (IntKind.i64.wrap (n + 4611686018427387904)) = (numU n : Int) := by
  unfold inNum at h
  rw [IntWalk.i64_in _ (by omega)]
  unfold numU
  simp [IntKind.wrap, IntKind.bits, IntKind.signed]
  omega
abbrev wHp (l : List UInt8) : Hp := [some (.box 112 [.ar 1]), some (.arr 5 1 (bR l))]
theorem wsmall_c (l : List UInt8) (n : Int) (hl : l.length ≤ 1000000) : DetCall Tryz.prog G 50 1 (wHp l) [.one (.ptr 0 0), iV n] (.tup []) (wHp (l ++ [smallB n])) := by
  refine gcallc mixed Tryz.func50 ac_wire_writer_small ?_
  have h1 := bR_len l
  have h2 := bR_ul l
  have h3 := bR_app l [smallB n]
  have h4 : bR [smallB n] = [[.lit (.int .u8 ((smallB n).toNat : Int))]] := rfl
  unfold wHp
  rw [h3, h4]
  have h5 := wrap_u8 n
  repeat' (first | (with_reducible first | refine Cn (fun h => ?_) fun h => ?_ | refine And.intro ?_ ?_ | refine wR ?_ | exact wr _ _ | refine wa ?_ | apply awp_join) | (with_reducible refine CallZ.z ?_) | simp -dsimp [go_sem, h1, h2, h5])
  all_goals first | omega | (simp [UL]; done)
theorem wnumber_c (l : List UInt8) (n : Int) (hl : l.length ≤ 1000000) (hn : inNum n) : DetCall Tryz.prog G 49 1 (wHp l) [.one (.ptr 0 0), iV n] (.tup []) (wHp (l ++ numB n)) := by
  refine gcallc mixed Tryz.func49 ac_wire_writer_number ?_
  have hu := numU_conv hn
  unfold wHp
  repeat' (first | (with_reducible first | refine Cn (fun h => ?_) fun h => ?_ | refine And.intro ?_ ?_ | refine wR ?_ | exact wr _ _ | refine wa ?_ | apply awp_join) | (with_reducible refine CallZ.z ?_) | simp -dsimp [go_sem, hu])
  refine awp_loop (fun j : Nat => ⟨[(0, .one (.ptr 0 0)), (4, .one (.v (.lit (.int .u64 (numU n))))), (5, iV (56 - 8 * j))], G, wHp (l ++ (numB n).take j)⟩) (fun j => j ≤ 8) (fun j => 8 - j) 0 (weak_auto ?_) (Nat.zero_le _) ?_
  · unfold wHp
    simp -dsimp [go_sem]
  · intro j hj
    have h1 := bR_len (l ++ (numB n).take j)
    have h2 := bR_ul (l ++ (numB n).take j)
    have hlen : (l ++ (numB n).take j).length ≤ 1000008 := by simp; omega
    unfold wHp
    simp -dsimp [go_sem]
    refine Cnd.intro (fun h => ?_) (fun h => ?_)
    · have hlt : j < 8 := by simp at h; omega
      have e1 : IntKind.i64.wrap (56 - 8 * (j : Int) - 8) = 56 - 8 * ((j + 1 : Nat) : Int) := by rw [IntWalk.i64_in _ (by omega)]; omega
      have e2 : IntKind.u8.wrap ((numU n : Int).fdiv (2 ^ min (56 - 8 * (j : Int)).toNat 64)) = ((byteAt' (numU n) (56 - 8 * j)).toNat : Int) := by
        rw [show min (56 - 8 * (j : Int)).toNat 64 = 56 - 8 * j by omega]; exact byte_row _ _
      have e3 : bR (l ++ (numB n).take (j + 1)) = bR (l ++ (numB n).take j) ++ [[.lit (.int .u8 ((byteAt' (numU n) (56 - 8 * j)).toNat : Int))]] := by
        have : (numB n).take (j + 1) = (numB n).take j ++ [byteAt' (numU n) (56 - 8 * j)] := by
          have hc : j = 0 ∨ j = 1 ∨ j = 2 ∨ j = 3 ∨ j = 4 ∨ j = 5 ∨ j = 6 ∨ j = 7 := by omega
          rcases hc with rfl | rfl | rfl | rfl | rfl | rfl | rfl | rfl <;> rfl
        rw [this, ← List.append_assoc, bR_app]; rfl
      repeat' (first | (with_reducible first | refine Cn (fun h => ?_) fun h => ?_ | refine And.intro ?_ ?_ | refine wR ?_ | exact wr _ _ | refine wa ?_ | apply awp_join) | (with_reducible refine CallZ.z ?_) | simp -dsimp [go_sem, h1, h2, e1, e2])
      all_goals first | omega | (with_reducible refine Again.auto (j + 1) ?_ ?_ ?_) | (simp [UL]; done) | skip
      · simp -dsimp [go_sem, e3]
      · exact hlt
      · show 8 - (j + 1) < 8 - j
        omega
    · have hj8 : j = 8 := by simp at h; omega
      subst hj8
      have e3 : (numB n).take 8 = numB n := rfl
      rw [e3]
      simp -dsimp [go_sem]
theorem wtext_c (l : List UInt8) (t : ByteArray) (hl : l.length ≤ 900000) (ht : t.size ≤ 1000) : DetCall Tryz.prog G 51 1 (wHp l) [.one (.ptr 0 0), sV t] (.tup []) (wHp (l ++ textB t)) := by
  refine gcallc mixed Tryz.func51 ac_wire_writer_text ?_
  have h1 := bR_len (l ++ [smallB t.size])
  have h2 := bR_ul (l ++ [smallB t.size])
  have h3 : bR (l ++ textB t) = bR (l ++ [smallB t.size]) ++ bR t.data.toList := by rw [← bR_app]; simp [textB]
  have h4 := bR_ul t.data.toList
  have h5 := bR_len t.data.toList
  have h6 : t.data.toList.length = t.size := by rw [Array.length_toList]; rfl
  have h7 : (l ++ [smallB t.size]).length ≤ 900001 := by simp; omega
  unfold wHp
  rw [h3]
  repeat' (first | (with_reducible first | refine Cn (fun h => ?_) fun h => ?_ | refine And.intro ?_ ?_ | refine wR ?_ | exact wr _ _ | refine wa ?_ | apply awp_join | refine qg (wsmall_c l _ (by omega)) ?_ | refine qgd (wsmall_c l _ (by omega)) ?_) | (with_reducible refine CallZ.z ?_) | simp -dsimp [go_sem, h1, h2, h4, h5, bR_str])
  all_goals omega
theorem textB_len (t : ByteArray) : (textB t).length = t.size + 1 := by unfold textB; rw [List.length_cons, Array.length_toList]; rfl
theorem numB_len (n : Int) : (numB n).length = 8 := rfl
end Go.Proofs.YtpdcfljbabpakaaGreatDoor
set_option linter.unusedVariables false
set_option linter.unusedSimpArgs false
set_option maxRecDepth 100000
set_option maxHeartbeats 8000000
namespace Go.Proofs.YtpdcfljbabpakaaGreatDoor
open Go Go.RowKit Go.Proofs.AE
structure Rd where
  rest : List UInt8
  short : Bool
def takeR (r : Rd) (n : Nat) : List UInt8 × Rd := if r.short = true ∨ r.rest.length < n then ([], ⟨r.rest, true⟩) else (r.rest.take n, ⟨r.rest.drop n, false⟩)
def uOf (l : List UInt8) : Nat := l.foldl (fun u c => (u * 256 + c.toNat) % 18446744073709551616) 0
def numOf (l : List UInt8) : Int := IntKind.i64.wrap ((uOf l : Int) - 4611686018427387904)
def numR (r : Rd) : Int × Rd := (numOf (takeR r 8).1, (takeR r 8).2)
def smallR (r : Rd) : Nat × Rd := ((match (takeR r 1).1 with | c :: _ => c.toNat | [] => 0), (takeR r 1).2)
def txtR (r : Rd) : ByteArray × Rd := (⟨(takeR (smallR r).2 (smallR r).1).1.toArray⟩, (takeR (smallR r).2 (smallR r).1).2)
theorem takeR_app (b rest : List UInt8) {n : Nat} (h : b.length = n) : takeR ⟨b ++ rest, false⟩ n = (b, ⟨rest, false⟩) := by
  subst h
  unfold takeR
  rw [if_neg (by simp), List.take_left' rfl, List.drop_left' rfl]
theorem uOf_numB {n : Int} (h : inNum n) : uOf (numB n) = numU n := by
  have hu : numU n < 18446744073709551616 := by unfold inNum at h; unfold numU; omega
  unfold uOf numB byteAt'
  generalize numU n = u at hu
  simp only [List.foldl_cons, List.foldl_nil, UInt8.toNat_ofNat']
  omega
theorem numOf_numB {n : Int} (h : inNum n) : numOf (numB n) = n := by
  unfold numOf
  rw [uOf_numB h]
  unfold inNum at h
  unfold numU
  rw [IntWalk.i64_in _ (by omega)]
  omega
theorem numR_app {n : Int} (h : inNum n) (rest : List UInt8) : numR ⟨numB n ++ rest, false⟩ = (n, ⟨rest, false⟩) := by
  unfold numR
  rw [takeR_app (numB n) rest (n := 8) rfl, numOf_numB h]
theorem smallR_app (c : UInt8) (rest : List UInt8) : smallR ⟨c :: rest, false⟩ = (c.toNat, ⟨rest, false⟩) := by
  have := takeR_app [c] rest (n := 1) rfl
  unfold smallR
  rw [show c :: rest = [c] ++ rest from rfl, this]
theorem smallB_toNat {n : Int} (h : 0 ≤ n) (h2 : n < 256) : (smallB n).toNat = n.toNat := by
  unfold smallB
  rw [UInt8.toNat_ofNat']; omega
theorem txtR_app {t : ByteArray} (h : t.size ≤ 255) (rest : List UInt8) : txtR ⟨textB t ++ rest, false⟩ = (t, ⟨rest, false⟩) := by
  have h1 : smallR ⟨textB t ++ rest, false⟩ = (t.size, ⟨t.data.toList ++ rest, false⟩) := by
    unfold textB
    rw [List.cons_append, smallR_app, smallB_toNat (by omega) (by omega)]
    simp
  unfold txtR
  rw [h1, takeR_app _ _ (by rw [Array.length_toList]; rfl)]
theorem uOf_lt (l : List UInt8) : uOf l < 18446744073709551616 := by
  unfold uOf
  rcases l.eq_nil_or_concat with rfl | ⟨a, b, rfl⟩
  · simp
  · rw [List.concat_eq_append, List.foldl_append]
    simp only [List.foldl_cons, List.foldl_nil]
    omega
theorem uOf_snoc (l : List UInt8) (c : UInt8) : uOf (l ++ [c]) = (uOf l * 256 + c.toNat) % 18446744073709551616 := by
  unfold uOf
  rw [List.foldl_append]
  rfl
theorem takeR_len (r : Rd) (n : Nat) : (takeR r n).1.length ≤ n := by
  unfold takeR
  split
  · simp
  · simp; omega
theorem takeR_short (l : List UInt8) (n : Nat) : (takeR ⟨l, true⟩ n).2.short = true := by simp [takeR]
theorem takeR_ext {l1 : List UInt8} (l2 : List UInt8) {n : Nat} (h : (takeR ⟨l1, false⟩ n).2.short = false) : takeR ⟨l1 ++ l2, false⟩ n = ((takeR ⟨l1, false⟩ n).1, ⟨(takeR ⟨l1, false⟩ n).2.rest ++ l2, false⟩) := by
  unfold takeR at h ⊢
  split at h
  · cases h
  · rename_i h1
    have h2 : ¬ l1.length < n := by simpa using h1
    rw [if_neg (by simp; omega), if_neg h1]
    simp only
    rw [List.take_append_of_le_length (by omega), List.drop_append_of_le_length (by omega)]
structure Reads {α : Type} (f : Rd → α × Rd) : Prop where
  stuck : ∀ l, (f ⟨l, true⟩).2.short = true
  ext : ∀ l1 l2, (f ⟨l1, false⟩).2.short = false → f ⟨l1 ++ l2, false⟩ = ((f ⟨l1, false⟩).1, ⟨(f ⟨l1, false⟩).2.rest ++ l2, false⟩)
theorem Reads.take (n : Nat) : Reads (fun r => takeR r n) := ⟨fun l => takeR_short l n, fun l1 l2 h => takeR_ext l2 h⟩
theorem Reads.map {α β : Type} {f : Rd → α × Rd} (h : Reads f) (g : α → β) : Reads (fun r => (g (f r).1, (f r).2)) :=
  ⟨fun l => h.stuck l, fun l1 l2 hs => by
    have := h.ext l1 l2 hs
    simp only [this]⟩
theorem Reads.bind {α β γ : Type} {f : Rd → α × Rd} {g : α → Rd → β × Rd} (c : α → β → γ) (h : Reads f) (hg : ∀ a, Reads (g a)) : Reads (fun r => (c (f r).1 (g (f r).1 (f r).2).1, (g (f r).1 (f r).2).2)) := by
  refine ⟨fun l => ?_, fun l1 l2 hs => ?_⟩
  · have h1 := h.stuck l
    generalize f ⟨l, true⟩ = p at *
    obtain ⟨a, r, s⟩ := p
    simp only at h1 ⊢
    subst h1
    exact (hg a).stuck r
  · simp only at hs ⊢
    have h1 : (f ⟨l1, false⟩).2.short = false := by
      cases hq : (f ⟨l1, false⟩).2.short with
      | false => rfl
      | true =>
        generalize f ⟨l1, false⟩ = p at *
        obtain ⟨a, r, s⟩ := p
        simp only at hq hs
        subst hq
        rw [(hg a).stuck r] at hs; cases hs
    rw [h.ext l1 l2 h1]
    generalize f ⟨l1, false⟩ = p at *
    obtain ⟨a, r, s⟩ := p
    simp only at h1 hs ⊢
    subst h1
    rw [(hg a).ext r l2 hs]
theorem reads_num : Reads numR := (Reads.take 8).map numOf
theorem reads_small : Reads smallR := (Reads.take 1).map fun l => match l with | c :: _ => c.toNat | [] => 0
theorem reads_text : Reads txtR := Reads.bind (f := smallR) (g := fun n r => takeR r n) (fun _ b => (⟨b.toArray⟩ : ByteArray)) reads_small fun n => Reads.take n
theorem numB_numOf {b : List UInt8} (hb : b.length = 8) (h : inNum (numOf b)) : numB (numOf b) = b := by
  have hu := uOf_lt b
  have e : ((uOf b : Nat) : Int) - 4611686018427387904 = numOf b := by
    unfold numOf at h ⊢
    unfold inNum at h
    have hw : IntKind.i64.wrap ((uOf b : Int) - 4611686018427387904) = (uOf b : Int) - 4611686018427387904 ∨ IntKind.i64.wrap ((uOf b : Int) - 4611686018427387904) = (uOf b : Int) - 4611686018427387904 - 18446744073709551616 := by
      by_cases hlt : (uOf b : Int) - 4611686018427387904 ≤ 9223372036854775807
      · left; exact IntWalk.i64_in _ (by omega)
      · right
        simp [IntKind.wrap, IntKind.bits, IntKind.signed]
        omega
    omega
  have hn : numU (numOf b) = uOf b := by unfold numU; omega
  unfold numB
  rw [hn]
  match b, hb with
  | [b7, b6, b5, b4, b3, b2, b1, b0], _ =>
    have l7 := b7.toNat_lt; have l6 := b6.toNat_lt; have l5 := b5.toNat_lt; have l4 := b4.toNat_lt
    have l3 := b3.toNat_lt; have l2 := b2.toNat_lt; have l1 := b1.toNat_lt; have l0 := b0.toNat_lt
    have hU : uOf [b7, b6, b5, b4, b3, b2, b1, b0] = ((((((b7.toNat * 256 + b6.toNat) * 256 + b5.toNat) * 256 + b4.toNat) * 256 + b3.toNat) * 256 + b2.toNat) * 256 + b1.toNat) * 256 + b0.toNat := by
      simp only [uOf, List.foldl_cons, List.foldl_nil]
      omega
    rw [hU]
    have key : ∀ (u s : Nat) (c : UInt8), u / 2 ^ s % 256 = c.toNat → byteAt' u s = c := by
      intro u s c h
      apply UInt8.toNat_inj.1
      unfold byteAt'
      rw [UInt8.toNat_ofNat']; omega
    rw [key _ 56 b7 (by omega), key _ 48 b6 (by omega), key _ 40 b5 (by omega), key _ 32 b4 (by omega), key _ 24 b3 (by omega), key _ 16 b2 (by omega), key _ 8 b1 (by omega), key _ 0 b0 (by omega)]
theorem take_eats {l : List UInt8} {n : Nat} (h : (takeR ⟨l, false⟩ n).2.short = false) : (takeR ⟨l, false⟩ n).1.length = n ∧ l = (takeR ⟨l, false⟩ n).1 ++ (takeR ⟨l, false⟩ n).2.rest := by
  unfold takeR at h ⊢
  split at h
  · cases h
  · rename_i h1
    rw [if_neg h1]
    have h2 : ¬ l.length < n := by simpa using h1
    exact ⟨by simp; omega, (List.take_append_drop n l).symm⟩
theorem num_eats {l : List UInt8} (h : (numR ⟨l, false⟩).2.short = false) (hn : inNum (numR ⟨l, false⟩).1) : l = numB (numR ⟨l, false⟩).1 ++ (numR ⟨l, false⟩).2.rest := by
  unfold numR at h hn ⊢
  obtain ⟨h1, h2⟩ := take_eats h
  rw [numB_numOf h1 hn]
  exact h2
theorem small_eats {l : List UInt8} (h : (smallR ⟨l, false⟩).2.short = false) : l = smallB (smallR ⟨l, false⟩).1 :: (smallR ⟨l, false⟩).2.rest ∧ (smallR ⟨l, false⟩).1 < 256 := by
  unfold smallR at h ⊢
  obtain ⟨h1, h2⟩ := take_eats h
  generalize takeR ⟨l, false⟩ 1 = p at *
  obtain ⟨b, r⟩ := p
  simp only at h1 h2 ⊢
  match b, h1 with
  | [c], _ =>
    have := c.toNat_lt
    simp only
    refine ⟨?_, this⟩
    have hc : smallB (c.toNat : Int) = c := by
      apply UInt8.toNat_inj.1
      rw [smallB_toNat (by omega) (by omega)]
      simp
    rw [hc]; exact h2
theorem text_eats {l : List UInt8} (h : (txtR ⟨l, false⟩).2.short = false) : l = textB (txtR ⟨l, false⟩).1 ++ (txtR ⟨l, false⟩).2.rest := by
  unfold txtR at h ⊢
  have hs : (smallR ⟨l, false⟩).2.short = false := by
    cases hq : (smallR ⟨l, false⟩).2.short with
    | false => rfl
    | true =>
      generalize smallR ⟨l, false⟩ = p at *
      obtain ⟨a, r, s⟩ := p
      simp only at hq h
      subst hq
      rw [takeR_short] at h; cases h
  obtain ⟨h1, h2⟩ := small_eats hs
  generalize smallR ⟨l, false⟩ = p at *
  obtain ⟨n, r, s⟩ := p
  simp only at hs h h1 h2 ⊢
  subst hs
  obtain ⟨h3, h4⟩ := take_eats h
  unfold textB
  have h5 : ((⟨(takeR ⟨r, false⟩ n).1.toArray⟩ : ByteArray).size : Int) = n := by
    show (((takeR ⟨r, false⟩ n).1.toArray.size : Nat) : Int) = n
    simp [h3]
  rw [h5, h1]
  simp only [List.cons_append]
  congr 1
theorem num_eats' {r : Rd} (h : (numR r).2.short = false) (hn : inNum (numR r).1) : r.short = false ∧ r.rest = numB (numR r).1 ++ (numR r).2.rest := by
  obtain ⟨l, s⟩ := r
  cases s with
  | true => rw [reads_num.stuck l] at h; cases h
  | false => exact ⟨rfl, num_eats h hn⟩
theorem small_eats' {r : Rd} (h : (smallR r).2.short = false) : r.short = false ∧ r.rest = smallB (smallR r).1 :: (smallR r).2.rest ∧ (smallR r).1 < 256 := by
  obtain ⟨l, s⟩ := r
  cases s with
  | true => rw [reads_small.stuck l] at h; cases h
  | false => exact ⟨rfl, small_eats h⟩
theorem text_eats' {r : Rd} (h : (txtR r).2.short = false) : r.short = false ∧ r.rest = textB (txtR r).1 ++ (txtR r).2.rest := by
  obtain ⟨l, s⟩ := r
  cases s with
  | true => rw [reads_text.stuck l] at h; cases h
  | false => exact ⟨rfl, text_eats h⟩
end Go.Proofs.YtpdcfljbabpakaaGreatDoor
set_option linter.unusedVariables false
set_option linter.unusedSimpArgs false
set_option maxRecDepth 100000
set_option maxHeartbeats 8000000
namespace Go.Proofs.YtpdcfljbabpakaaGreatDoor
open Go Go.RowKit Go.Proofs.AE
structure Codec {α : Type} (f : Rd → α × Rd) (g : α → List UInt8) (ok : α → Prop) : Prop where
  back : ∀ a rest, ok a → f ⟨g a ++ rest, false⟩ = (a, ⟨rest, false⟩)
  reads : Reads f
  eats : ∀ r, (f r).2.short = false → ok (f r).1 → r.short = false ∧ r.rest = g (f r).1 ++ (f r).2.rest
theorem Codec.num : Codec numR numB inNum := ⟨fun n rest h => numR_app h rest, reads_num, fun r h hn => num_eats' h hn⟩
theorem Codec.text : Codec txtR textB (fun t => t.size ≤ 255) := ⟨fun t rest h => txtR_app h rest, reads_text, fun r h _ => text_eats' h⟩
def smR (r : Rd) : Int × Rd := ((smallR r).1, (smallR r).2)
theorem Codec.small : Codec smR (fun n => [smallB n]) (fun n => 0 ≤ n ∧ n < 256) := by
  refine ⟨fun n rest h => ?_, reads_small.map fun n : Nat => (n : Int), fun r h hn => ?_⟩
  · have := smallR_app (smallB n) rest
    unfold smR
    rw [show [smallB n] ++ rest = smallB n :: rest from rfl, this, smallB_toNat h.1 h.2]
    simp only [Prod.mk.injEq, and_true]
    omega
  · obtain ⟨h1, h2, _⟩ := small_eats' (r := r) h
    exact ⟨h1, h2⟩
theorem Codec.seq {α β : Type} {f : Rd → α × Rd} {g : α → List UInt8} {ok : α → Prop} {f' : Rd → β × Rd} {g' : β → List UInt8} {ok' : β → Prop} (A : Codec f g ok) (B : Codec f' g' ok') :
    Codec (fun r => (((f r).1, (f' (f r).2).1), (f' (f r).2).2)) (fun p => g p.1 ++ g' p.2) (fun p => ok p.1 ∧ ok' p.2) := by
  refine ⟨fun p rest h => ?_, Reads.bind (g := fun _ => f') Prod.mk A.reads fun _ => B.reads, fun r h ho => ?_⟩
  · simp only [List.append_assoc, A.back p.1 _ h.1, B.back p.2 _ h.2]
  · simp only at h ho ⊢
    obtain ⟨h1, h2⟩ := B.eats (f r).2 h ho.2
    obtain ⟨h3, h4⟩ := A.eats r h1 ho.1
    exact ⟨h3, by rw [h4, h2, List.append_assoc]⟩
theorem Codec.iso {α β : Type} {f : Rd → α × Rd} {g : α → List UInt8} {ok : α → Prop} (A : Codec f g ok) (to : α → β) (of : β → α) (h1 : ∀ b, to (of b) = b) (h2 : ∀ a, of (to a) = a) :
    Codec (fun r => (to (f r).1, (f r).2)) (fun b => g (of b)) (fun b => ok (of b)) := by
  refine ⟨fun b rest h => ?_, A.reads.map to, fun r h ho => ?_⟩
  · simp only [A.back (of b) rest h, h1]
  · simp only [h2] at h ho ⊢
    exact A.eats r h ho
def eachN {α : Type} (f : Rd → α × Rd) : Nat → Rd → List α × Rd
  | 0, r => ([], r)
  | n + 1, r => if r.short = true then ([], r) else ((f r).1 :: (eachN f n (f r).2).1, (eachN f n (f r).2).2)
def eachR {α : Type} (f : Rd → α × Rd) (r : Rd) : List α × Rd := eachN f (smallR r).1 (smallR r).2
def manyB {α : Type} (g : α → List UInt8) (l : List α) : List UInt8 := smallB l.length :: l.flatMap g
theorem eachN_back {α : Type} {f : Rd → α × Rd} {g : α → List UInt8} {ok : α → Prop} (A : Codec f g ok) : ∀ (l : List α) (rest : List UInt8), (∀ a ∈ l, ok a) → eachN f l.length ⟨l.flatMap g ++ rest, false⟩ = (l, ⟨rest, false⟩)
  | [], rest, _ => rfl
  | a :: l, rest, h => by
    have ih := eachN_back A l rest fun b hb => h b (List.mem_cons_of_mem _ hb)
    have ha := A.back a (l.flatMap g ++ rest) (h a (List.mem_cons_self ..))
    simp only [List.length_cons, eachN, List.flatMap_cons, List.append_assoc, Bool.false_eq_true, if_false, ha, ih]
theorem eachN_stuck {α : Type} {f : Rd → α × Rd} : ∀ (n : Nat) (l : List UInt8), (eachN f n ⟨l, true⟩).2.short = true
  | 0, _ => rfl
  | n + 1, l => by simp [eachN]
theorem eachN_reads {α : Type} {f : Rd → α × Rd} (A : Reads f) : ∀ n, Reads (eachN f n)
  | 0 => ⟨fun l => rfl, fun l1 l2 _ => rfl⟩
  | n + 1 => by
    have ih := eachN_reads A n
    have hb := Reads.bind (f := f) (g := fun _ => eachN f n) (fun a l => a :: l) A fun _ => ih
    refine ⟨fun l => eachN_stuck (n + 1) l, fun l1 l2 h => ?_⟩
    simp only [eachN, Bool.false_eq_true, if_false] at h ⊢
    exact hb.ext l1 l2 h
theorem eachN_eats {α : Type} {f : Rd → α × Rd} {g : α → List UInt8} {ok : α → Prop} (A : Codec f g ok) : ∀ (n : Nat) (r : Rd), (eachN f n r).2.short = false → (∀ a ∈ (eachN f n r).1, ok a) → r.short = false ∧ (eachN f n r).1.length = n ∧ r.rest = (eachN f n r).1.flatMap g ++ (eachN f n r).2.rest
  | 0, r, h, _ => ⟨h, rfl, rfl⟩
  | n + 1, r, h, ho => by
    unfold eachN at h ho ⊢
    by_cases hs : r.short = true
    · rw [if_pos hs] at h; rw [hs] at h; cases h
    · rw [if_neg hs] at h ho ⊢
      simp only [List.mem_cons] at h ho ⊢
      obtain ⟨i1, i2, i3⟩ := eachN_eats A n (f r).2 h fun a ha => ho a (.inr ha)
      obtain ⟨j1, j2⟩ := A.eats r i1 (ho _ (.inl rfl))
      exact ⟨j1, by simp [i2], by rw [j2, i3]; simp⟩
theorem Codec.many {α : Type} {f : Rd → α × Rd} {g : α → List UInt8} {ok : α → Prop} (A : Codec f g ok) : Codec (eachR f) (manyB g) (fun l => l.length ≤ 255 ∧ ∀ a ∈ l, ok a) := by
  refine ⟨fun l rest h => ?_, ?_, fun r h ho => ?_⟩
  · unfold eachR manyB
    rw [List.cons_append, smallR_app, smallB_toNat (by omega) (by omega)]
    simp only [Int.toNat_natCast]
    exact eachN_back A l rest h.2
  · exact Reads.bind (f := smallR) (g := fun n => eachN f n) (fun _ l => l) reads_small fun n => eachN_reads A.reads n
  · unfold eachR at h ho ⊢
    obtain ⟨h1, h2, h3⟩ := eachN_eats A _ _ h ho.2
    obtain ⟨h4, h5, _⟩ := small_eats' (r := r) h1
    refine ⟨h4, ?_⟩
    unfold manyB
    rw [h5, h3, h2]
    rfl
def prR (r : Rd) : Pr × Rd := (((txtR r).1, (txtR (txtR r).2).1), (txtR (txtR r).2).2)
def prB (p : Pr) : List UInt8 := textB p.1 ++ textB p.2
theorem Codec.pr : Codec prR prB (fun p => p.1.size ≤ 255 ∧ p.2.size ≤ 255) := Codec.seq Codec.text Codec.text
def scR (r : Rd) : Sc × Rd := (((txtR r).1, (numR (txtR r).2).1), (numR (txtR r).2).2)
def scB (s : Sc) : List UInt8 := textB s.1 ++ numB s.2
theorem Codec.sc : Codec scR scB (fun s => s.1.size ≤ 255 ∧ inNum s.2) := Codec.seq Codec.text Codec.num
abbrev ValT : Type := Int × ByteArray × Int × List Pr × List ByteArray × List Sc
def valT (v : Val) : ValT := (v.kind, v.text, v.count, v.pairs, v.items, v.scores)
def tVal (p : ValT) : Val := ⟨p.1, p.2.1, p.2.2.1, p.2.2.2.1, p.2.2.2.2.1, p.2.2.2.2.2⟩
def sqR {α β : Type} (f : Rd → α × Rd) (g : Rd → β × Rd) (r : Rd) : (α × β) × Rd := (((f r).1, (g (f r).2).1), (g (f r).2).2)
def mapR {α β : Type} (t : α → β) (f : Rd → α × Rd) (r : Rd) : β × Rd := (t (f r).1, (f r).2)
def valR : Rd → Val × Rd := mapR tVal (sqR smR (sqR txtR (sqR numR (sqR (eachR prR) (sqR (eachR txtR) (eachR scR))))))
def valB (v : Val) : List UInt8 := [smallB v.kind] ++ (textB v.text ++ (numB v.count ++ (manyB prB v.pairs ++ (manyB textB v.items ++ manyB scB v.scores))))
structure SizV (v : Val) : Prop where
  kind : 0 ≤ v.kind ∧ v.kind < 256
  text : v.text.size ≤ 255
  count : inNum v.count
  pairs : v.pairs.length ≤ 255 ∧ ∀ p ∈ v.pairs, p.1.size ≤ 255 ∧ p.2.size ≤ 255
  items : v.items.length ≤ 255 ∧ ∀ t ∈ v.items, t.size ≤ 255
  scores : v.scores.length ≤ 255 ∧ ∀ s ∈ v.scores, s.1.size ≤ 255 ∧ inNum s.2
theorem Codec.ok {α : Type} {f : Rd → α × Rd} {g : α → List UInt8} {ok ok' : α → Prop} (A : Codec f g ok) (h : ∀ a, ok' a → ok a) : Codec f g ok' := ⟨fun a rest ha => A.back a rest (h a ha), A.reads, fun r hs ha => A.eats r hs (h _ ha)⟩
theorem Codec.val : Codec valR valB SizV :=
  ((Codec.small.seq (Codec.text.seq (Codec.num.seq (Codec.pr.many.seq (Codec.text.many.seq Codec.sc.many))))).iso tVal valT (fun v => rfl) (fun p => rfl)).ok
    fun v h => ⟨h.kind, h.text, h.count, h.pairs, h.items, h.scores⟩
abbrev EntT : Type := ByteArray × Val × Int
def tEnt (p : EntT) : Ent := ⟨p.1, p.2.1, p.2.2⟩
def entR : Rd → Ent × Rd := mapR tEnt (sqR txtR (sqR valR numR))
def entB (e : Ent) : List UInt8 := textB e.key ++ (valB e.val ++ numB e.till)
structure SizE (e : Ent) : Prop where
  key : e.key.size ≤ 255
  val : SizV e.val
  till : inNum e.till
theorem Codec.ent : Codec entR entB SizE :=
  ((Codec.text.seq (Codec.val.seq Codec.num)).iso tEnt (fun e => (e.key, e.val, e.till)) (fun e => rfl) (fun p => rfl)).ok fun e h => ⟨h.key, h.val, h.till⟩
abbrev CliT : Type := Int × Int × Int × Int × ByteArray × Int × List ByteArray
def tCli (p : CliT) : Cli := ⟨p.1, p.2.1, p.2.2.1, ⟨p.2.2.2.1, p.2.2.2.2.1, p.2.2.2.2.2.1, p.2.2.2.2.2.2⟩⟩
def cliR : Rd → Cli × Rd := mapR tCli (sqR numR (sqR numR (sqR numR (sqR smR (sqR txtR (sqR numR (eachR txtR)))))))
def cliB (x : Cli) : List UInt8 := numB x.id ++ (numB x.seq ++ (numB x.time ++ ([smallB x.reply.code] ++ (textB x.reply.text ++ (numB x.reply.n ++ manyB textB x.reply.list)))))
structure SizC (x : Cli) : Prop where
  id : inNum x.id
  seq : inNum x.seq
  time : inNum x.time
  code : 0 ≤ x.reply.code ∧ x.reply.code < 256
  text : x.reply.text.size ≤ 255
  n : inNum x.reply.n
  list : x.reply.list.length ≤ 255 ∧ ∀ t ∈ x.reply.list, t.size ≤ 255
theorem Codec.cli : Codec cliR cliB SizC :=
  ((Codec.num.seq (Codec.num.seq (Codec.num.seq (Codec.small.seq (Codec.text.seq (Codec.num.seq Codec.text.many)))))).iso tCli (fun x => (x.id, x.seq, x.time, x.reply.code, x.reply.text, x.reply.n, x.reply.list)) (fun x => rfl) (fun p => rfl)).ok
    fun x h => ⟨h.id, h.seq, h.time, h.code, h.text, h.n, h.list⟩
abbrev MachT : Type := Int × List Ent × Int × List Cli
def tMach (p : MachT) : Mach := ⟨⟨p.1, p.2.1⟩, p.2.2.1, p.2.2.2⟩
def machR : Rd → Mach × Rd := mapR tMach (sqR numR (sqR (eachR entR) (sqR numR (eachR cliR))))
def machB (m : Mach) : List UInt8 := numB m.sto.now ++ (manyB entB m.sto.ents ++ (numB m.next ++ manyB cliB m.clis))
structure SizM (m : Mach) : Prop where
  now : inNum m.sto.now
  ents : m.sto.ents.length ≤ 255 ∧ ∀ e ∈ m.sto.ents, SizE e
  next : inNum m.next
  clis : m.clis.length ≤ 255 ∧ ∀ x ∈ m.clis, SizC x
theorem Codec.mach : Codec machR machB SizM :=
  ((Codec.num.seq (Codec.ent.many.seq (Codec.num.seq Codec.cli.many))).iso tMach (fun m => (m.sto.now, m.sto.ents, m.next, m.clis)) (fun m => rfl) (fun p => rfl)).ok fun m h => ⟨h.now, h.ents, h.next, h.clis⟩
theorem okT_size {t : ByteArray} (h : okText t = true) : t.size ≤ 20 := by unfold okText at h; simp at h; omega
theorem okF_size {t : ByteArray} (h : okField t = true) : t.size ≤ 12 := by unfold okField at h; simp at h; omega
theorem okC_num {n : Int} (h : okCount n = true) : inNum n := by unfold okCount at h; simp at h; unfold inNum; omega
theorem OkV.siz {v : Val} (h : OkV v) : SizV v := by
  have hb := h.b
  have he := hb.els
  unfold Val.els at he
  refine ⟨by have := h.kind; omega, by have := okT_size h.okT; omega, okC_num h.okC, ⟨by omega, fun p hp => ?_⟩, ⟨by omega, fun t ht => ?_⟩, ⟨by omega, fun s hs => ?_⟩⟩
  · have := h.okP p hp; have h1 := okF_size this.1; have h2 := okT_size this.2; omega
  · have := okT_size (h.okI t ht); omega
  · have := h.okS s hs; have h1 := okT_size this.1; exact ⟨by omega, okC_num this.2⟩
theorem OkE.siz {now : Int} (h0 : 0 ≤ now) {e : Ent} (h : OkE now e) : SizE e := by
  refine ⟨by have := okF_size h.key; omega, h.val.siz, ?_⟩
  have := h.till
  unfold inNum; omega
theorem OkC.siz {next now : Int} (hn : next ≤ 1048577) (hw : now ≤ 1073741824) {x : Cli} (h : OkC next now x) : SizC x := by
  have hr := checkR_iff.1 h.reply
  have h1 := h.id; have h2 := h.seq; have h3 := h.time
  refine ⟨by unfold inNum; omega, by unfold inNum; omega, by unfold inNum; omega, by have := hr.code; omega, by have := okT_size hr.text; omega, okC_num hr.n, ⟨by have := hr.len; omega, fun t ht => by have := okT_size (hr.list t ht); omega⟩⟩
theorem OkM.siz {m : Mach} (h : OkM m) : SizM m := by
  have h1 := h.sto.now; have h2 := h.next
  exact ⟨by unfold inNum; omega, ⟨by have := h.sto.len; omega, fun e he => (h.sto.all e he).siz h1.1⟩, by unfold inNum; omega, ⟨by have := h.len; omega, fun x hx => (h.all x hx).siz h2.2 h1.2⟩⟩
def endR (r : Rd) : Int := if r.short = true then 9 else if 0 < r.rest.length then 8 else 0
def decM (l : List UInt8) : Mach × Int :=
  if 20000 < l.length then (zeroM, 1)
  else if endR (machR ⟨l, false⟩).2 ≠ 0 then (zeroM, endR (machR ⟨l, false⟩).2)
  else if checkM (machR ⟨l, false⟩).1 ≠ 0 then (zeroM, checkM (machR ⟨l, false⟩).1)
  else ((machR ⟨l, false⟩).1, 0)
theorem decM_back {m : Mach} (h : OkM m) (hl : (machB m).length ≤ 20000) : decM (machB m) = (m, 0) := by
  have e := Codec.mach.back m [] h.siz
  rw [List.append_nil] at e
  unfold decM
  rw [if_neg (by omega), e]
  simp only [endR]
  rw [if_neg (by simp), if_neg (by rw [checkM_iff.2 h]; simp)]
theorem flat_len {α : Type} {g : α → List UInt8} {b : Nat} : ∀ (l : List α), (∀ a ∈ l, (g a).length ≤ b) → (l.flatMap g).length ≤ l.length * b
  | [], _ => by simp
  | a :: l, h => by
    have ih := flat_len l fun x hx => h x (List.mem_cons_of_mem _ hx)
    have ha := h a (List.mem_cons_self ..)
    rw [List.flatMap_cons, List.length_append, List.length_cons, Nat.add_mul]
    omega
theorem many_len {α : Type} {g : α → List UInt8} {b : Nat} {l : List α} (h : ∀ a ∈ l, (g a).length ≤ b) : (manyB g l).length ≤ 1 + l.length * b := by
  unfold manyB
  rw [List.length_cons]
  have := flat_len l h
  omega
theorem valB_len' {v : Val} (h : OkV v) : (valB v).length ≤ 900 := by
  have hb := h.b
  have he := hb.els
  unfold Val.els at he
  have h1 := okT_size h.okT
  have p := many_len (g := prB) (b := 34) (l := v.pairs) fun p hp => by
    have := h.okP p hp; have a := okF_size this.1; have b := okT_size this.2
    unfold prB; rw [List.length_append, textB_len, textB_len]; omega
  have i := many_len (g := textB) (b := 34) (l := v.items) fun t ht => by have := okT_size (h.okI t ht); rw [textB_len]; omega
  have s := many_len (g := scB) (b := 34) (l := v.scores) fun s hs => by
    have := h.okS s hs; have a := okT_size this.1
    unfold scB; rw [List.length_append, textB_len, numB_len]; omega
  unfold valB
  simp only [List.length_append, textB_len, numB_len, List.length_cons, List.length_nil]
  omega
theorem machB_len {m : Mach} (h : OkM m) : (machB m).length ≤ 13500 := by
  have e := many_len (g := entB) (b := 930) (l := m.sto.ents) fun e he => by
    have ok := h.sto.all e he
    have a := okF_size ok.key; have b := valB_len' ok.val
    unfold entB; simp only [List.length_append, textB_len, numB_len]; omega
  have c := many_len (g := cliB) (b := 500) (l := m.clis) fun x hx => by
    have hr := checkR_iff.1 (h.all x hx).reply
    have a := okT_size hr.text
    have b := many_len (g := textB) (b := 21) (l := x.reply.list) fun t ht => by have := okT_size (hr.list t ht); rw [textB_len]; omega
    have l := hr.len
    unfold cliB; simp only [List.length_append, textB_len, numB_len, List.length_cons, List.length_nil]; omega
  have h1 := h.sto.len
  have h2 := h.len
  unfold machB
  simp only [List.length_append, numB_len]
  omega
theorem machB_pos (m : Mach) : 0 < (machB m).length := by unfold machB; simp [numB_len]; omega
end Go.Proofs.YtpdcfljbabpakaaGreatDoor
set_option linter.unusedVariables false
set_option linter.unusedSimpArgs false
set_option maxRecDepth 100000
set_option maxHeartbeats 8000000
namespace Go.Proofs.YtpdcfljbabpakaaGreatDoor
open Go Go.RowKit Go.Proofs.AE
variable {G : Nat → AV}
abbrev bC (b : Bool) : C := .v (.lit (.bool b))
def noCall (client seq k : Int) (key field text : ByteArray) (n : Int) : Bool := client == 0 && (seq == 0 && (k == 0 && (decide (key = ⟨#[]⟩) && (decide (field = ⟨#[]⟩) && (decide (text = ⟨#[]⟩) && n == 0)))))
def checkItem (term time : Int) (nop : Bool) (client seq k : Int) (key field text : ByteArray) (n : Int) : Int :=
  if decide (term < 1) then 2 else if decide (1048576 < term) then 2 else if decide (time < 0) then 2 else if decide (1073741824 < time) then 2
  else if nop then (if noCall client seq k key field text n then 0 else 8) else checkCall client seq k key field text n
theorem checkItem_c (term time : Int) (nop : Bool) (client seq k : Int) (key field text : ByteArray) (n : Int) :
    PCall Tryz.prog G 43 [.agg [iC term, iC time, bC nop, iC client, iC seq, iC k, sC key, sC field, sC text, iC n]] (iV (checkItem term time nop client seq k key field text n)) := by
  refine pcallc mixed Tryz.func43 ac_wire_CheckItem ?_
  repeat' (first | (with_reducible first | refine Cn (fun h => ?_) fun h => ?_ | refine And.intro ?_ ?_ | refine wR ?_ | exact wr _ _ | refine wa ?_ | apply awp_join | refine q (checkCall_c _ _ _ _ _ _ _) ?_ | refine qd (checkCall_c _ _ _ _ _ _ _) ?_ | refine qz (checkCall_c _ _ _ _ _ _ _) ?_) | (with_reducible refine CallZ.z ?_) | simp -dsimp [go_sem])
  all_goals simp_all [checkItem, noCall]
  all_goals ((repeat' split) <;> first | rfl | omega | (exfalso; simp_all; done))
def itemCall (client off kind key field n : Int) (text : ByteArray) : List C :=
  if pk client 5 = 0 ∨ pk client 5 = 1 then [iC 0, iC 0, iC 0, sC ⟨#[]⟩, sC ⟨#[]⟩, sC ⟨#[]⟩, iC 0] else iC (pk client 50 + 1) :: iC (1 + pk off 100) :: cmdOf (1 + pk kind 22) key field n text
theorem item_c (client off wait kind key field n : Int) (text : ByteArray) (term time : Int) (hc : i64 client) (ho : i64 off) (h1 : i64 kind) (h2 : i64 key) (h3 : i64 field) (h4 : i64 n) (ht : i64 term) (hi : i64 time) :
    PCall Tryz.prog G 68 [.agg [iC client, iC off, iC wait, iC kind, iC key, iC field, iC n, sC text], iV term, iV time]
      (.agg (iC (1 + pk term 1000) :: iC (pk time 100000) :: bC (decide (pk client 5 = 0)) :: itemCall client off kind key field n text)) := by
  have r1 := pk_range (n := term) (m := 1000) (by omega)
  have r2 := pk_range (n := client) (m := 50) (by omega)
  have r3 := pk_range (n := off) (m := 100) (by omega)
  have e1 : IntKind.i64.wrap (1 + pk term 1000) = 1 + pk term 1000 := IntWalk.i64_in _ (by omega)
  have e2 : IntKind.i64.wrap (pk client 50 + 1) = pk client 50 + 1 := IntWalk.i64_in _ (by omega)
  have e3 : IntKind.i64.wrap (1 + pk off 100) = 1 + pk off 100 := IntWalk.i64_in _ (by omega)
  refine pcallc mixed Tryz.func68 ac_rostrumkeep_Item ?_
  repeat' (first | (with_reducible first | refine Cn (fun h => ?_) fun h => ?_ | refine And.intro ?_ ?_ | refine wR ?_ | exact wr _ _ | refine wa ?_ | apply awp_join | refine q1 (by exact picked_c _ _ (by assumption) (by simp)) ?_ | refine q1d (by exact picked_c _ _ (by assumption) (by simp)) ?_ | refine q1 (by exact picked_c _ _ (by assumption) (by simp)) ?_ | refine q1d (by exact picked_c _ _ (by assumption) (by simp)) ?_ | refine q1 (by exact command_c _ _ _ _ _ (by assumption) (by assumption) (by assumption) (by assumption)) ?_ | refine q1d (by exact command_c _ _ _ _ _ (by assumption) (by assumption) (by assumption) (by assumption)) ?_) | (with_reducible refine CallZ.z ?_) | simp -dsimp [go_sem, cmdOf, e1, e2, e3])
  all_goals simp_all [itemCall, cmdOf, coeCs, coeC]
end Go.Proofs.YtpdcfljbabpakaaGreatDoor
set_option linter.unusedVariables false
set_option linter.unusedSimpArgs false
set_option maxRecDepth 100000
set_option maxHeartbeats 8000000
namespace Go.Proofs.YtpdcfljbabpakaaGreatDoor
open Go Go.RowKit Go.Proofs.AE
variable {G : Nat → AV}
theorem callGood {client off kind key field n : Int} {text : ByteArray} (h4 : i64 n) : ∀ c s k a b d m, itemCall client off kind key field n text = [iC c, iC s, iC k, sC a, sC b, sC d, iC m] → checkCall c s k a b d m = 0 := by
  intro c s k a b d m h
  have r2 := pk_range (n := client) (m := 50) (by omega)
  have r3 := pk_range (n := off) (m := 100) (by omega)
  unfold itemCall at h
  split at h
  · simp only [List.cons.injEq, C.v.injEq, V.lit.injEq, Value.int.injEq, Value.string.injEq, and_true, true_and] at h
    obtain ⟨rfl, rfl, rfl, rfl, rfl, rfl, rfl⟩ := h
    decide
  · simp only [List.cons.injEq, C.v.injEq, V.lit.injEq, Value.int.injEq, true_and] at h
    obtain ⟨rfl, rfl, h⟩ := h
    have hc := cmd_ok kind key field n text h4 k a b d m h
    have h1 : okNumber (pk client 50 + 1) = true := by simp only [okNumber, Bool.and_eq_true, decide_eq_true_eq]; omega
    have h2 : okNumber (1 + pk off 100) = true := by simp only [okNumber, Bool.and_eq_true, decide_eq_true_eq]; omega
    have h3 : ¬ pk client 50 + 1 = 0 := by omega
    simp [checkCall, h1, h2, h3, hc]
end Go.Proofs.YtpdcfljbabpakaaGreatDoor
set_option linter.unusedVariables false
set_option linter.unusedSimpArgs false
set_option maxRecDepth 100000
set_option maxHeartbeats 8000000
namespace Go.Proofs.YtpdcfljbabpakaaGreatDoor
open Go Go.RowKit Go.Proofs.AE
variable {G : Nat → AV}
structure Item where
  term : Int
  time : Int
  nop : Bool
  client : Int
  seq : Int
  k : Int
  key : ByteArray
  field : ByteArray
  text : ByteArray
  n : Int
def Item.row (x : Item) : List V := [iL x.term, iL x.time, .lit (.bool x.nop), iL x.client, iL x.seq, iL x.k, sL x.key, sL x.field, sL x.text, iL x.n]
def Item.check (x : Item) : Int := checkItem x.term x.time x.nop x.client x.seq x.k x.key x.field x.text x.n
noncomputable def itemOf (d : Deed) (term time : Int) : Item :=
  if pk d.client 5 = 0 ∨ pk d.client 5 = 1 then ⟨term, time, decide (pk d.client 5 = 0), 0, 0, 0, ⟨#[]⟩, ⟨#[]⟩, ⟨#[]⟩, 0⟩
  else match cmdOf (1 + pk d.kind 22) d.key d.field d.n d.text with
    | [.v (.lit (.int _ k)), .v (.lit (.string a)), .v (.lit (.string b)), .v (.lit (.string c)), .v (.lit (.int _ m))] => ⟨term, time, false, pk d.client 50 + 1, 1 + pk d.off 100, k, a, b, c, m⟩
    | _ => ⟨0, 0, false, 0, 0, 0, ⟨#[]⟩, ⟨#[]⟩, ⟨#[]⟩, 0⟩
theorem itemOf_call (d : Deed) (term time : Int) : itemCall d.client d.off d.kind d.key d.field d.n d.text = [iC (itemOf d term time).client, iC (itemOf d term time).seq, iC (itemOf d term time).k, sC (itemOf d term time).key, sC (itemOf d term time).field, sC (itemOf d term time).text, iC (itemOf d term time).n] := by
  unfold itemCall itemOf
  split
  · rfl
  · simp [cmdOf]
theorem itemOf_head (d : Deed) (term time : Int) : (itemOf d term time).term = term ∧ (itemOf d term time).time = time ∧ (itemOf d term time).nop = decide (pk d.client 5 = 0) := by
  unfold itemOf
  split
  · exact ⟨rfl, rfl, rfl⟩
  · rename_i h
    have : ¬ pk d.client 5 = 0 := fun e => h (.inl e)
    simp [cmdOf, this]
end Go.Proofs.YtpdcfljbabpakaaGreatDoor
set_option linter.unusedVariables false
set_option linter.unusedSimpArgs false
set_option maxRecDepth 100000
set_option maxHeartbeats 8000000
namespace Go.Proofs.YtpdcfljbabpakaaGreatDoor
open Go Go.RowKit Go.Proofs.AE
variable {G : Nat → AV}
def cmdB (k : Int) (key field text : ByteArray) (n : Int) : List UInt8 := [smallB k] ++ textB key ++ textB field ++ textB text ++ numB n
def callB (client seq k : Int) (key field text : ByteArray) (n : Int) : List UInt8 := numB client ++ (if 0 < client then numB seq ++ cmdB k key field text n else [])
def itemB (x : Item) : List UInt8 := numB x.term ++ numB x.time ++ (if x.nop then [1] else [0] ++ callB x.client x.seq x.k x.key x.field x.text x.n)
theorem wcommand_c (l : List UInt8) (k : Int) (key field text : ByteArray) (n : Int) (hl : l.length ≤ 800000) (h1 : key.size ≤ 1000) (h2 : field.size ≤ 1000) (h3 : text.size ≤ 1000) (hn : inNum n) :
    DetCall Tryz.prog G 111 1 (wHp l) [.one (.ptr 0 0), .agg [iC k, sC key, sC field, sC text, iC n]] (.tup []) (wHp (l ++ cmdB k key field text n)) := by
  refine gcallc mixed Tryz.func111 ac_wire_writer_command ?_
  have hf : l ++ cmdB k key field text n = l ++ [smallB k] ++ textB key ++ textB field ++ textB text ++ numB n := by simp [cmdB]
  rw [hf]
  unfold wHp
  repeat' (first | (with_reducible first | refine Cn (fun h => ?_) fun h => ?_ | refine And.intro ?_ ?_ | refine wR ?_ | exact wr _ _ | refine wa ?_ | apply awp_join | refine qg (wsmall_c _ _ ?_) ?_ | refine qgd (wsmall_c _ _ ?_) ?_ | refine qg (wtext_c _ _ ?_ ?_) ?_ | refine qgd (wtext_c _ _ ?_ ?_) ?_ | refine qg (wnumber_c _ _ ?_ ?_) ?_ | refine qgd (wnumber_c _ _ ?_ ?_) ?_) | (with_reducible refine CallZ.z ?_) | simp -dsimp [go_sem])
  all_goals first | assumption | omega | (simp [textB_len]; omega)
theorem wcall_c (l : List UInt8) (client seq k : Int) (key field text : ByteArray) (n : Int) (hl : l.length ≤ 700000) (h1 : key.size ≤ 1000) (h2 : field.size ≤ 1000) (h3 : text.size ≤ 1000) (hn : inNum n) (hc : inNum client) (hs : inNum seq) :
    DetCall Tryz.prog G 94 1 (wHp l) [.one (.ptr 0 0), .agg [iC client, iC seq, iC k, sC key, sC field, sC text, iC n]] (.tup []) (wHp (l ++ callB client seq k key field text n)) := by
  refine gcallc mixed Tryz.func94 ac_wire_writer_call ?_
  unfold wHp
  by_cases h0 : 0 < client
  · have hf : l ++ callB client seq k key field text n = l ++ numB client ++ numB seq ++ cmdB k key field text n := by simp [callB, h0]
    rw [hf]
    repeat' (first | (with_reducible first | refine Cn (fun h => ?_) fun h => ?_ | refine And.intro ?_ ?_ | refine wR ?_ | exact wr _ _ | refine wa ?_ | apply awp_join | refine qg (wnumber_c _ _ ?_ ?_) ?_ | refine qgd (wnumber_c _ _ ?_ ?_) ?_ | refine qg (wcommand_c _ _ _ _ _ _ ?_ ?_ ?_ ?_ ?_) ?_ | refine qgd (wcommand_c _ _ _ _ _ _ ?_ ?_ ?_ ?_ ?_) ?_) | (with_reducible refine CallZ.z ?_) | simp -dsimp [go_sem, h0])
    all_goals first | assumption | omega | (simp [numB_len]; omega)
  · have hf : l ++ callB client seq k key field text n = l ++ numB client := by simp [callB, h0]
    rw [hf]
    repeat' (first | (with_reducible first | refine Cn (fun h => ?_) fun h => ?_ | refine And.intro ?_ ?_ | refine wR ?_ | exact wr _ _ | refine wa ?_ | apply awp_join | refine qg (wnumber_c _ _ ?_ ?_) ?_ | refine qgd (wnumber_c _ _ ?_ ?_) ?_) | (with_reducible refine CallZ.z ?_) | simp -dsimp [go_sem, h0])
    all_goals first | assumption | omega | (simp [numB_len]; omega)
theorem witem_c (l : List UInt8) (x : Item) (hl : l.length ≤ 600000) (h1 : x.key.size ≤ 1000) (h2 : x.field.size ≤ 1000) (h3 : x.text.size ≤ 1000) (hn : inNum x.n) (hc : inNum x.client) (hs : inNum x.seq) (ht : inNum x.term) (hm : inNum x.time) :
    DetCall Tryz.prog G 66 1 (wHp l) [.one (.ptr 0 0), .agg (x.row.map .v)] (.tup []) (wHp (l ++ itemB x)) := by
  refine gcallc mixed Tryz.func66 ac_wire_writer_item ?_
  unfold wHp
  have h10 : smallB 1 = 1 := by decide
  have h00 : smallB 0 = 0 := by decide
  cases hx : x.nop
  · have hf : l ++ itemB x = l ++ numB x.term ++ numB x.time ++ [smallB 0] ++ callB x.client x.seq x.k x.key x.field x.text x.n := by simp [itemB, hx, h00]
    rw [hf]
    repeat' (first | (with_reducible first | refine Cn (fun h => ?_) fun h => ?_ | refine And.intro ?_ ?_ | refine wR ?_ | exact wr _ _ | refine wa ?_ | apply awp_join | refine qg (wnumber_c _ _ ?_ ?_) ?_ | refine qgd (wnumber_c _ _ ?_ ?_) ?_ | refine qg (wsmall_c _ _ ?_) ?_ | refine qgd (wsmall_c _ _ ?_) ?_ | refine qg (wcall_c _ _ _ _ _ _ _ _ ?_ ?_ ?_ ?_ ?_ ?_ ?_) ?_ | refine qgd (wcall_c _ _ _ _ _ _ _ _ ?_ ?_ ?_ ?_ ?_ ?_ ?_) ?_) | (with_reducible refine CallZ.z ?_) | simp -dsimp [go_sem, hx, Item.row])
    all_goals first | assumption | omega | (simp [numB_len]; omega)
  · have hf : l ++ itemB x = l ++ numB x.term ++ numB x.time ++ [smallB 1] := by simp [itemB, hx, h10]
    rw [hf]
    repeat' (first | (with_reducible first | refine Cn (fun h => ?_) fun h => ?_ | refine And.intro ?_ ?_ | refine wR ?_ | exact wr _ _ | refine wa ?_ | apply awp_join | refine qg (wnumber_c _ _ ?_ ?_) ?_ | refine qgd (wnumber_c _ _ ?_ ?_) ?_ | refine qg (wsmall_c _ _ ?_) ?_ | refine qgd (wsmall_c _ _ ?_) ?_) | (with_reducible refine CallZ.z ?_) | simp -dsimp [go_sem, hx, Item.row])
    all_goals first | assumption | omega | (simp [numB_len]; omega)
theorem cmd_bounds {k : Int} {a b c : ByteArray} {n : Int} (hc : checkCommand k a b c n = 0) : 1 ≤ k ∧ k ≤ 22 ∧ a.size ≤ 12 ∧ b.size ≤ 12 ∧ c.size ≤ 20 ∧ -1099511627776 ≤ n ∧ n ≤ 1099511627776 := by
  have hz : (⟨#[]⟩ : ByteArray).size = 0 := rfl
  unfold checkCommand at hc
  repeat' split at hc
  all_goals first | (cases hc; done) | skip
  rename_i h1 h2 h3 h4 h5
  simp only [Bool.not_eq_false] at h3 h5
  simp only [formOk, okCount, okText, okField, Bool.and_eq_true, Bool.or_eq_true, Bool.not_eq_true', decide_eq_true_eq, bne_iff_ne, ne_eq, beq_iff_eq, decide_eq_false_iff_not, Bool.and_eq_false_iff, not_or, not_and, Decidable.not_not] at h3 h4 h5
  obtain ⟨⟨⟨q1, q2⟩, q3⟩, q4⟩ := h3
  obtain ⟨⟨p1, p2⟩, p3⟩ := h4
  refine ⟨by omega, by omega, ?_, ?_, by omega, h5.1, h5.2⟩
  · rcases q1 with q | q
    · have := p1 q; omega
    · rw [q, hz]; omega
  · rcases q2 with q | q
    · have := p2 q; omega
    · rw [q, hz]; omega
theorem noCall_iff {client seq k : Int} {a b c : ByteArray} {n : Int} : noCall client seq k a b c n = true ↔ client = 0 ∧ seq = 0 ∧ k = 0 ∧ a = ⟨#[]⟩ ∧ b = ⟨#[]⟩ ∧ c = ⟨#[]⟩ ∧ n = 0 := by
  simp [noCall]
theorem call_bounds {client seq k : Int} {a b c : ByteArray} {n : Int} (h : checkCall client seq k a b c n = 0) :
    (client = 0 ∧ seq = 0 ∧ k = 0 ∧ a = ⟨#[]⟩ ∧ b = ⟨#[]⟩ ∧ c = ⟨#[]⟩ ∧ n = 0) ∨ (1 ≤ client ∧ client ≤ 1048576 ∧ 1 ≤ seq ∧ seq ≤ 1048576 ∧ checkCommand k a b c n = 0) := by
  unfold checkCall at h
  split at h
  · rename_i h0
    left
    split at h
    · rename_i h1
      simp only [decide_eq_true_eq] at h0
      simp only [Bool.and_eq_true, beq_iff_eq, decide_eq_true_eq] at h1
      exact ⟨h0, h1⟩
    · cases h
  · split at h
    · rename_i h1
      split at h
      · rename_i h2
        right
        simp only [okNumber, Bool.and_eq_true, decide_eq_true_eq] at h1 h2
        exact ⟨h1.1, h1.2, h2.1, h2.2, h⟩
      · cases h
    · cases h
theorem item_ok {x : Item} (h : x.check = 0) : 1 ≤ x.term ∧ x.term ≤ 1048576 ∧ 0 ≤ x.time ∧ x.time ≤ 1073741824 ∧ (x.nop = true → x.client = 0) ∧
    ((x.client = 0 ∧ x.seq = 0 ∧ x.k = 0 ∧ x.key = ⟨#[]⟩ ∧ x.field = ⟨#[]⟩ ∧ x.text = ⟨#[]⟩ ∧ x.n = 0) ∨ (1 ≤ x.client ∧ x.client ≤ 1048576 ∧ 1 ≤ x.seq ∧ x.seq ≤ 1048576 ∧ checkCommand x.k x.key x.field x.text x.n = 0)) := by
  unfold Item.check checkItem at h
  simp only [decide_eq_true_eq] at h
  by_cases h1 : x.term < 1
  · simp [h1] at h
  by_cases h2 : 1048576 < x.term
  · simp [h1, h2] at h
  by_cases h3 : x.time < 0
  · simp [h1, h2, h3] at h
  by_cases h4 : 1073741824 < x.time
  · simp [h1, h2, h3, h4] at h
  simp only [h1, h2, h3, h4, if_false] at h
  refine ⟨by omega, by omega, by omega, by omega, ?_⟩
  cases hx : x.nop
  · rw [hx] at h
    exact ⟨fun h => (by cases h), call_bounds (by simpa using h)⟩
  · rw [hx] at h
    simp only [if_true] at h
    split at h
    · rename_i hn
      have := noCall_iff.1 hn
      exact ⟨fun _ => this.1, .inl this⟩
    · cases h
theorem item_bounds {x : Item} (h : x.check = 0) : x.key.size ≤ 1000 ∧ x.field.size ≤ 1000 ∧ x.text.size ≤ 1000 ∧ inNum x.n ∧ inNum x.client ∧ inNum x.seq ∧ inNum x.term ∧ inNum x.time := by
  obtain ⟨h1, h2, h3, h4, _, h5⟩ := item_ok h
  have hz : (⟨#[]⟩ : ByteArray).size = 0 := rfl
  unfold inNum
  rcases h5 with ⟨a, b, c, d, e, f, g⟩ | ⟨a, b, c, d, e⟩
  · rw [a, b, d, e, f, g, hz]; omega
  · have := cmd_bounds e; omega
theorem encodeItem_c (x : Item) (h : x.check = 0) : PCall Tryz.prog G 30 [.agg (x.row.map .v)] (.tup [.one (.v (.sl (bR (itemB x)))), iV 0]) := by
  obtain ⟨h1, h2, h3, h4, h5, h6, h7, h8⟩ := item_bounds h
  have hc : PCall Tryz.prog G 43 [.agg (x.row.map .v)] (iV 0) := by
    have := checkItem_c (G := G) x.term x.time x.nop x.client x.seq x.k x.key x.field x.text x.n
    rw [show checkItem x.term x.time x.nop x.client x.seq x.k x.key x.field x.text x.n = 0 from h] at this
    exact this
  have hw := witem_c (G := G) [] x (by simp) h1 h2 h3 h4 h5 h6 h7 h8
  simp only [Item.row, List.map_cons, List.map_nil, List.nil_append] at hc hw ⊢
  refine pcallc mixed Tryz.func30 ac_wire_EncodeItem ?_
  repeat' (first | (with_reducible first | refine Cn (fun h => ?_) fun h => ?_ | refine And.intro ?_ ?_ | refine wR ?_ | exact wr _ _ | refine wa ?_ | apply awp_join | refine q hc ?_ | refine qd hc ?_ | refine qz hc ?_ | refine qg hw ?_ | refine qgd hw ?_) | (refine CallZ.l (CallK.thaw 1 0 5 1 rfl rfl (by decide) ?_); simp -dsimp [go_sem]) | (with_reducible refine CallZ.z ?_) | simp -dsimp [go_sem])
structure WCmd where
  k : Int
  key : ByteArray
  field : ByteArray
  text : ByteArray
  n : Int
def wcmdR (r : Rd) : WCmd × Rd :=
  let a := smallR r
  let b := txtR a.2
  let c := txtR b.2
  let d := txtR c.2
  let e := numR d.2
  (⟨a.1, b.1, c.1, d.1, e.1⟩, e.2)
def callR (r : Rd) : (Int × Int × WCmd) × Rd :=
  let a := numR r
  if a.1 = 0 then ((0, 0, ⟨0, ⟨#[]⟩, ⟨#[]⟩, ⟨#[]⟩, 0⟩), a.2)
  else
    let b := numR a.2
    let c := wcmdR b.2
    ((a.1, b.1, c.1), c.2)
def itemR (r : Rd) : Item × Bool × Rd :=
  let a := numR r
  let b := numR a.2
  let c := smallR b.2
  if c.1 = 0 then
    let d := callR c.2
    (⟨a.1, b.1, false, d.1.1, d.1.2.1, d.1.2.2.k, d.1.2.2.key, d.1.2.2.field, d.1.2.2.text, d.1.2.2.n⟩, true, d.2)
  else (⟨a.1, b.1, decide (c.1 = 1), 0, 0, 0, ⟨#[]⟩, ⟨#[]⟩, ⟨#[]⟩, 0⟩, decide (c.1 = 1), c.2)
theorem wcmdR_app {k : Int} {key field text : ByteArray} {n : Int} (hk : 0 ≤ k ∧ k < 256) (h1 : key.size ≤ 255) (h2 : field.size ≤ 255) (h3 : text.size ≤ 255) (hn : inNum n) (rest : List UInt8) :
    wcmdR ⟨cmdB k key field text n ++ rest, false⟩ = (⟨k, key, field, text, n⟩, ⟨rest, false⟩) := by
  unfold wcmdR cmdB
  simp only [List.append_assoc, List.cons_append, List.nil_append, smallR_app, txtR_app h1, txtR_app h2, txtR_app h3, numR_app hn, smallB_toNat hk.1 hk.2]
  rw [Int.toNat_of_nonneg hk.1]
theorem itemR_app {x : Item} (h : x.check = 0) (rest : List UInt8) : itemR ⟨itemB x ++ rest, false⟩ = (x, true, ⟨rest, false⟩) := by
  obtain ⟨h1, h2, h3, h4, h5, h6⟩ := item_ok h
  obtain ⟨_, _, _, b4, b5, b6, b7, b8⟩ := item_bounds h
  cases hx : x.nop
  · have e : itemB x ++ rest = numB x.term ++ (numB x.time ++ (0 :: (callB x.client x.seq x.k x.key x.field x.text x.n ++ rest))) := by simp [itemB, hx]
    unfold itemR
    rw [e]
    simp only [numR_app b7, numR_app b8, smallR_app]
    rw [if_pos (by decide)]
    rcases h6 with ⟨c1, c2, c3, c4, c5, c6, c7⟩ | ⟨c1, c2, c3, c4, c5⟩
    · have e2 : callB x.client x.seq x.k x.key x.field x.text x.n ++ rest = numB 0 ++ rest := by simp [callB, c1]
      have : callR ⟨callB x.client x.seq x.k x.key x.field x.text x.n ++ rest, false⟩ = ((0, 0, ⟨0, ⟨#[]⟩, ⟨#[]⟩, ⟨#[]⟩, 0⟩), ⟨rest, false⟩) := by
        unfold callR
        rw [e2, numR_app (by unfold inNum; omega)]
        simp
      rw [this]
      cases x
      simp_all
    · have e2 : callB x.client x.seq x.k x.key x.field x.text x.n ++ rest = numB x.client ++ (numB x.seq ++ (cmdB x.k x.key x.field x.text x.n ++ rest)) := by simp [callB, show 0 < x.client by omega]
      have hb := cmd_bounds c5
      have : callR ⟨callB x.client x.seq x.k x.key x.field x.text x.n ++ rest, false⟩ = ((x.client, x.seq, ⟨x.k, x.key, x.field, x.text, x.n⟩), ⟨rest, false⟩) := by
        unfold callR
        rw [e2]
        simp only [numR_app b5, numR_app b6, wcmdR_app (k := x.k) (by omega) (by omega : x.key.size ≤ 255) (by omega : x.field.size ≤ 255) (by omega : x.text.size ≤ 255) b4]
        rw [if_neg (by omega)]
      rw [this]
      cases x
      simp_all
  · have e : itemB x ++ rest = numB x.term ++ (numB x.time ++ (1 :: rest)) := by simp [itemB, hx]
    unfold itemR
    rw [e]
    simp only [numR_app b7, numR_app b8, smallR_app]
    rw [if_neg (by decide)]
    have h0 := h5 hx
    rcases h6 with ⟨c1, c2, c3, c4, c5, c6, c7⟩ | ⟨c1, _⟩
    · cases x
      simp_all
    · omega
end Go.Proofs.YtpdcfljbabpakaaGreatDoor
set_option linter.unusedVariables false
set_option linter.unusedSimpArgs false
set_option maxRecDepth 100000
set_option maxHeartbeats 8000000
namespace Go.Proofs.YtpdcfljbabpakaaGreatDoor
open Go Go.RowKit Go.Proofs.AE
variable {G : Nat → AV}
abbrev rHp (r : Rd) : Hp := [some (.box 128 [.v (.sl (bR r.rest)), .v (.lit (.bool r.short))])]
theorem bR_take (l : List UInt8) (n : Nat) : (bR l).take n = bR (l.take n) := by simp [bR, List.map_take]
theorem bR_drop (l : List UInt8) (n : Nat) : (bR l).drop n = bR (l.drop n) := by simp [bR, List.map_drop]
theorem take_c (r : Rd) (n : Int) (hn : 0 ≤ n) : DetCall Tryz.prog G 88 1 (rHp r) [.one (.ptr 0 0), iV n] (.one (.v (.sl (bR (takeR r n.toNat).1)))) (rHp (takeR r n.toNat).2) := by
  refine gcallc mixed Tryz.func88 ac_wire_reader_take ?_
  have h1 := bR_len r.rest
  have h2 := bR_ul r.rest
  have h3 := bR_take r.rest n.toNat
  have h4 := bR_drop r.rest n.toNat
  unfold rHp
  by_cases hs : r.short = true
  · have ht : takeR r n.toNat = ([], ⟨r.rest, true⟩) := by unfold takeR; rw [if_pos (.inl hs)]
    rw [ht, hs]
    repeat' (first | (with_reducible first | refine Cn (fun h => ?_) fun h => ?_ | refine And.intro ?_ ?_ | refine wR ?_ | exact wr _ _ | refine wa ?_ | apply awp_join) | (with_reducible refine CallZ.z ?_) | simp -dsimp [go_sem, bR])
  · have hs' : r.short = false := by simpa using hs
    rw [hs']
    by_cases hl : (r.rest.length : Int) < n
    · have ht : takeR r n.toNat = ([], ⟨r.rest, true⟩) := by unfold takeR; rw [if_pos (.inr (by omega))]
      rw [ht]
      repeat' (first | (with_reducible first | refine Cn (fun h => ?_) fun h => ?_ | refine And.intro ?_ ?_ | refine wR ?_ | exact wr _ _ | refine wa ?_ | apply awp_join) | (with_reducible refine CallZ.z ?_) | simp -dsimp [go_sem, h1, hl])
      all_goals simp [bR]
    · have ht : takeR r n.toNat = (r.rest.take n.toNat, ⟨r.rest.drop n.toNat, false⟩) := by unfold takeR; rw [if_neg (by simp [hs']; omega)]
      rw [ht]
      have h5 : (bR r.rest).take r.rest.length = bR r.rest := by rw [bR_take, List.take_length]
      repeat' (first | (with_reducible first | refine Cn (fun h => ?_) fun h => ?_ | refine And.intro ?_ ?_ | refine wR ?_ | exact wr _ _ | refine wa ?_ | apply awp_join) | (with_reducible refine CallZ.z ?_) | simp -dsimp [go_sem, h1, hl, h2, h3, h4, h5])
      all_goals first | omega | skip
theorem shl_or (u : Nat) (c : UInt8) (hu : u < 18446744073709551616) : bitsV .or .u64 (IntKind.u64.wrap ((u : Int) * 256)) (c.toNat : Int) = ((u : Int) * 256 + c.toNat) % 18446744073709551616 := by
  have hc := c.toNat_lt
  have w64 : ∀ n : Nat, n < 18446744073709551616 → IntKind.u64.wrap (n : Int) = n := by
    intro n hn
    simp [IntKind.wrap, IntKind.bits, IntKind.signed]
    omega
  have h1 : IntKind.u64.wrap ((u : Int) * 256) = ((u * 256 % 18446744073709551616 : Nat) : Int) := by
    simp [IntKind.wrap, IntKind.bits, IntKind.signed]
  rw [h1]
  obtain ⟨v, hv⟩ : ∃ v, u * 256 % 18446744073709551616 = v * 256 := ⟨u * 256 % 18446744073709551616 / 256, by omega⟩
  have hv2 : v * 256 < 18446744073709551616 := by omega
  rw [hv, show ((u : Int) * 256 + c.toNat) % 18446744073709551616 = ((v * 256 + c.toNat : Nat) : Int) by omega]
  unfold bitsV
  simp only [IntKind.bits]
  have e1 : (BitVec.ofInt 64 ((v * 256 : Nat) : Int)) = BitVec.ofNat 64 (v * 256) := rfl
  have e2 : (BitVec.ofInt 64 (c.toNat : Int)) = BitVec.ofNat 64 c.toNat := rfl
  rw [e1, e2]
  change IntKind.u64.wrap (((BitVec.ofNat 64 (v * 256) ||| BitVec.ofNat 64 c.toNat : BitVec 64).toNat : Nat) : Int) = _
  simp only [BitVec.toNat_or, BitVec.toNat_ofNat]
  rw [Nat.mod_eq_of_lt (by omega), Nat.mod_eq_of_lt (by omega)]
  have e3 : v * 256 ||| c.toNat = v * 256 + c.toNat := by
    have := Nat.shiftLeft_add_eq_or_of_lt (i := 8) (b := c.toNat) (by omega) v
    rw [Nat.shiftLeft_eq] at this
    exact this.symm
  rw [e3, w64 _ (by omega)]
theorem wrap_back (u : Nat) : IntKind.i64.wrap (IntKind.u64.wrap ((u : Int) - 4611686018427387904)) = IntKind.i64.wrap ((u : Int) - 4611686018427387904) := by
  simp [IntKind.wrap, IntKind.bits, IntKind.signed]
theorem rnumber_c (r : Rd) : DetCall Tryz.prog G 55 1 (rHp r) [.one (.ptr 0 0)] (iV (numR r).1) (rHp (numR r).2) := by
  refine gcallc mixed Tryz.func55 ac_wire_reader_number ?_
  have ht := take_c (G := G) r 8 (by omega)
  have hl := takeR_len r 8
  unfold numR
  simp only [show (8 : Int).toNat = 8 from rfl] at ht
  generalize hq : takeR r 8 = q at *
  obtain ⟨b, r'⟩ := q
  simp only at ht hl ⊢
  have h1 := bR_len b
  unfold rHp
  repeat' (first | (with_reducible first | refine Cn (fun h => ?_) fun h => ?_ | refine And.intro ?_ ?_ | refine wR ?_ | exact wr _ _ | refine wa ?_ | apply awp_join | refine qg ht ?_ | refine qgd ht ?_) | (with_reducible refine CallZ.z ?_) | simp -dsimp [go_sem, h1])
  refine awp_loop (fun i : Nat => ⟨[(3, .one (.v (.lit (.int .u64 (uOf (b.take i)))))), (7, .one (.v (.sl (bR b)))), (8, iV b.length), (9, iV i)], G, rHp r'⟩) (fun i => i ≤ b.length) (fun i => b.length - i) 0 (weak_auto ?_) (Nat.zero_le _) ?_
  · simp -dsimp [go_sem]
    rfl
  · intro i hi
    unfold rHp
    simp -dsimp [go_sem]
    refine Cnd.intro (fun h => ?_) (fun h => ?_)
    · have hlt : i < b.length := by simpa using h
      have hgi : (bR b)[i]? = some [.lit (.int .u8 (b[i].toNat : Int))] := by simp [bR, hlt]
      have e1 : IntKind.i64.wrap ((i : Int) + 1) = i + 1 := IntWalk.i64_in _ (by omega)
      have e2 := shl_or (uOf (b.take i)) b[i] (uOf_lt _)
      have e3 : IntKind.u64.wrap (b[i].toNat : Int) = b[i].toNat := by
        have := b[i].toNat_lt
        simp [IntKind.wrap, IntKind.bits, IntKind.signed]
        omega
      have e4 : uOf (b.take (i + 1)) = (uOf (b.take i) * 256 + b[i].toNat) % 18446744073709551616 := by rw [List.take_succ_eq_append_getElem hlt, uOf_snoc]
      repeat' (first | (with_reducible first | refine Cn (fun h => ?_) fun h => ?_ | refine And.intro ?_ ?_ | refine wR ?_ | exact wr _ _ | refine wa ?_ | apply awp_join) | (with_reducible refine CallZ.z ?_) | simp -dsimp [go_sem, hgi, e1, e2, e3])
      all_goals first | omega | (with_reducible refine Again.auto (i + 1) ?_ ?_ ?_) | skip
      · simp -dsimp [go_sem, e4, e2]
      · exact hlt
      · show b.length - (i + 1) < b.length - i
        omega
    · have hij : i = b.length := by simp at h; omega
      subst hij
      have e5 : b.take b.length = b := List.take_length
      have e6 : IntKind.i64.wrap (IntKind.u64.wrap ((uOf b : Int) - 4611686018427387904)) = numOf b := wrap_back _
      rw [e5]
      repeat' (first | (with_reducible first | refine Cn (fun h => ?_) fun h => ?_ | refine And.intro ?_ ?_ | refine wR ?_ | exact wr _ _ | refine wa ?_ | apply awp_join) | (with_reducible refine CallZ.z ?_) | simp -dsimp [go_sem, e6])
theorem rsmall_c (r : Rd) : DetCall Tryz.prog G 61 1 (rHp r) [.one (.ptr 0 0)] (iV (smallR r).1) (rHp (smallR r).2) := by
  refine gcallc mixed Tryz.func61 ac_wire_reader_small ?_
  have ht := take_c (G := G) r 1 (by omega)
  unfold smallR
  simp only [show (1 : Int).toNat = 1 from rfl] at ht
  generalize hq : takeR r 1 = q at *
  obtain ⟨b, r'⟩ := q
  simp only at ht ⊢
  have h1 := bR_len b
  unfold rHp
  repeat' (first | (with_reducible first | refine Cn (fun h => ?_) fun h => ?_ | refine And.intro ?_ ?_ | refine wR ?_ | exact wr _ _ | refine wa ?_ | apply awp_join | refine qg ht ?_ | refine qgd ht ?_) | (with_reducible refine CallZ.z ?_) | simp -dsimp [go_sem, h1])
  refine awp_loop (fun _ : Unit => ⟨[(6, .one (.v (.sl (bR b)))), (7, iV b.length), (8, iV 0)], G, rHp r'⟩) (fun _ => True) (fun _ => 0) () (weak_auto ?_) trivial ?_
  · simp -dsimp [go_sem]
  · intro _ _
    unfold rHp
    cases b with
    | nil => repeat' (first | (with_reducible first | refine Cn (fun h => ?_) fun h => ?_ | refine And.intro ?_ ?_ | refine wR ?_ | exact wr _ _ | refine wa ?_ | apply awp_join) | (with_reducible refine CallZ.z ?_) | simp -dsimp [go_sem])
    | cons c b =>
      have hgi : (bR (c :: b))[0]? = some [.lit (.int .u8 (c.toNat : Int))] := by simp [bR]
      have e3 : IntKind.i64.wrap (c.toNat : Int) = c.toNat := by
        have := c.toNat_lt
        exact IntWalk.i64_in _ (by omega)
      repeat' (first | (with_reducible first | refine Cn (fun h => ?_) fun h => ?_ | refine And.intro ?_ ?_ | refine wR ?_ | exact wr _ _ | refine wa ?_ | apply awp_join) | (with_reducible refine CallZ.z ?_) | simp -dsimp [go_sem, hgi, e3])
theorem rtext_c (r : Rd) : DetCall Tryz.prog G 58 1 (rHp r) [.one (.ptr 0 0)] (sV (txtR r).1) (rHp (txtR r).2) := by
  refine gcallc mixed Tryz.func58 ac_wire_reader_text ?_
  have h1 := bR_bytes
  unfold txtR rHp
  repeat' (first | (with_reducible first | refine Cn (fun h => ?_) fun h => ?_ | refine And.intro ?_ ?_ | refine wR ?_ | exact wr _ _ | refine wa ?_ | apply awp_join | refine qg (rsmall_c _) ?_ | refine qgd (rsmall_c _) ?_ | refine qg (take_c _ _ (Int.natCast_nonneg _)) ?_ | refine qgd (take_c _ _ (Int.natCast_nonneg _)) ?_) | (with_reducible refine CallZ.z ?_) | simp -dsimp [go_sem, h1])
theorem rend_c (r : Rd) (ok : Bool) : DetCall Tryz.prog G 63 1 (rHp r) [.one (.ptr 0 0), bV ok] (iV (if r.short then 9 else if ok = false ∨ 0 < r.rest.length then 8 else 0)) (rHp r) := by
  refine gcallc mixed Tryz.func63 ac_wire_reader_end ?_
  have h1 := bR_len r.rest
  unfold rHp
  cases hs : r.short <;> cases ok
  all_goals
    repeat' (first | (with_reducible first | refine Cn (fun h => ?_) fun h => ?_ | refine And.intro ?_ ?_ | refine wR ?_ | exact wr _ _ | refine wa ?_ | apply awp_join) | (with_reducible refine CallZ.z ?_) | simp -dsimp [go_sem, h1])
  all_goals first | (simp_all; done) | (intro hh; simp_all)
end Go.Proofs.YtpdcfljbabpakaaGreatDoor
set_option linter.unusedVariables false
set_option linter.unusedSimpArgs false
set_option maxRecDepth 100000
set_option maxHeartbeats 8000000
namespace Go.Proofs.YtpdcfljbabpakaaGreatDoor
open Go Go.RowKit Go.Proofs.AE
variable {G : Nat → AV}
abbrev WCmd.cells (c : WCmd) : List C := [iC c.k, sC c.key, sC c.field, sC c.text, iC c.n]
theorem rcommand_c (r : Rd) : DetCall Tryz.prog G 156 1 (rHp r) [.one (.ptr 0 0)] (.agg (wcmdR r).1.cells) (rHp (wcmdR r).2) := by
  refine gcallc mixed Tryz.func156 ac_wire_reader_command ?_
  simp only [wcmdR, WCmd.cells]
  unfold rHp
  repeat' (first | (with_reducible first | refine Cn (fun h => ?_) fun h => ?_ | refine And.intro ?_ ?_ | refine wR ?_ | exact wr _ _ | refine wa ?_ | apply awp_join | refine qg (rsmall_c _) ?_ | refine qgd (rsmall_c _) ?_ | refine qg (rtext_c _) ?_ | refine qgd (rtext_c _) ?_ | refine qg (rnumber_c _) ?_ | refine qgd (rnumber_c _) ?_) | (with_reducible refine CallZ.z ?_) | simp -dsimp [go_sem])
theorem rcall_c (r : Rd) : DetCall Tryz.prog G 140 1 (rHp r) [.one (.ptr 0 0)] (.agg (iC (callR r).1.1 :: iC (callR r).1.2.1 :: (callR r).1.2.2.cells)) (rHp (callR r).2) := by
  refine gcallc mixed Tryz.func140 ac_wire_reader_call ?_
  by_cases h0 : (numR r).1 = 0
  · simp only [callR, h0, if_true, WCmd.cells]
    unfold rHp
    repeat' (first | (with_reducible first | refine Cn (fun h => ?_) fun h => ?_ | refine And.intro ?_ ?_ | refine wR ?_ | exact wr _ _ | refine wa ?_ | apply awp_join | refine qg (rnumber_c _) ?_ | refine qgd (rnumber_c _) ?_) | (with_reducible refine CallZ.z ?_) | simp -dsimp [go_sem, h0])
  · simp only [callR, h0, if_false, WCmd.cells]
    have h1 := beq_false_of_ne h0
    have h2 : ((numR r).1 != 0) = true := by simp [bne, h1]
    unfold rHp
    repeat' (first | (with_reducible first | refine Cn (fun h => ?_) fun h => ?_ | refine And.intro ?_ ?_ | refine wR ?_ | exact wr _ _ | refine wa ?_ | apply awp_join | refine qg (rnumber_c _) ?_ | refine qgd (rnumber_c _) ?_ | refine qg (rcommand_c _) ?_ | refine qgd (rcommand_c _) ?_) | (with_reducible refine CallZ.z ?_) | simp -dsimp [go_sem, h2])
theorem ritem_c (r : Rd) : DetCall Tryz.prog G 113 1 (rHp r) [.one (.ptr 0 0)] (.tup [.agg ((itemR r).1.row.map .v), bV (itemR r).2.1]) (rHp (itemR r).2.2) := by
  refine gcallc mixed Tryz.func113 ac_wire_reader_item ?_
  by_cases h0 : (smallR (numR (numR r).2).2).1 = 0
  · simp only [itemR, h0, if_true, Item.row, List.map_cons, List.map_nil]
    unfold rHp
    repeat' (first | (with_reducible first | refine Cn (fun h => ?_) fun h => ?_ | refine And.intro ?_ ?_ | refine wR ?_ | exact wr _ _ | refine wa ?_ | apply awp_join | refine qg (rnumber_c _) ?_ | refine qgd (rnumber_c _) ?_ | refine qg (rsmall_c _) ?_ | refine qgd (rsmall_c _) ?_ | refine qg (rcall_c _) ?_ | refine qgd (rcall_c _) ?_) | (with_reducible refine CallZ.z ?_) | simp -dsimp [go_sem, h0])
  · have h1 : ((((smallR (numR (numR r).2).2).1 : Nat) : Int) == 0) = false := beq_false_of_ne (by omega)
    simp only [itemR, h0, if_false, Item.row, List.map_cons, List.map_nil]
    by_cases h2 : (smallR (numR (numR r).2).2).1 = 1
    · unfold rHp
      rw [h2]
      repeat' (first | (with_reducible first | refine Cn (fun h => ?_) fun h => ?_ | refine And.intro ?_ ?_ | refine wR ?_ | exact wr _ _ | refine wa ?_ | apply awp_join | refine qg (rnumber_c _) ?_ | refine qgd (rnumber_c _) ?_ | refine qg (rsmall_c _) ?_ | refine qgd (rsmall_c _) ?_) | (with_reducible refine CallZ.z ?_) | simp -dsimp [go_sem, h2])
    · have h3 : ((((smallR (numR (numR r).2).2).1 : Nat) : Int) == 1) = false := beq_false_of_ne (by omega)
      unfold rHp
      repeat' (first | (with_reducible first | refine Cn (fun h => ?_) fun h => ?_ | refine And.intro ?_ ?_ | refine wR ?_ | exact wr _ _ | refine wa ?_ | apply awp_join | refine qg (rnumber_c _) ?_ | refine qgd (rnumber_c _) ?_ | refine qg (rsmall_c _) ?_ | refine qgd (rsmall_c _) ?_) | (with_reducible refine CallZ.z ?_) | simp -dsimp [go_sem, h1, h2, h3])
def zeroItem : Item := ⟨0, 0, false, 0, 0, 0, ⟨#[]⟩, ⟨#[]⟩, ⟨#[]⟩, 0⟩
def decItem (l : List UInt8) : Item × Int :=
  if 20000 < l.length then (zeroItem, 1)
  else
    let a := itemR ⟨l, false⟩
    if a.2.2.short then (zeroItem, 9)
    else if a.2.1 = false ∨ 0 < a.2.2.rest.length then (zeroItem, 8)
    else if a.1.check = 0 then (a.1, 0) else (zeroItem, a.1.check)
theorem checkItemV_c (x : Item) : PCall Tryz.prog G 43 [.agg (x.row.map .v)] (iV x.check) := checkItem_c (G := G) x.term x.time x.nop x.client x.seq x.k x.key x.field x.text x.n
theorem decodeItem_c (l : List UInt8) : PCall Tryz.prog G 96 [.one (.v (.sl (bR l)))] (.tup [.agg ((decItem l).1.row.map .v), iV (decItem l).2]) := by
  refine pcallc mixed Tryz.func96 ac_wire_DecodeItem ?_
  have h1 := bR_len l
  have c1 := ritem_c (G := G) ⟨l, false⟩
  have c2 := rend_c (G := G) (itemR ⟨l, false⟩).2.2 (itemR ⟨l, false⟩).2.1
  have c3 := checkItemV_c (G := G) (itemR ⟨l, false⟩).1
  unfold decItem
  generalize itemR ⟨l, false⟩ = q at *
  obtain ⟨x, ok, r'⟩ := q
  simp only [Item.row, List.map_cons, List.map_nil] at c1 c2 c3 ⊢
  by_cases hl : 20000 < l.length
  · have hl' : (20000 : Int) < l.length := by omega
    rw [if_pos hl]
    repeat' (first | (with_reducible first | refine Cn (fun h => ?_) fun h => ?_ | refine And.intro ?_ ?_ | refine wR ?_ | exact wr _ _ | refine wa ?_ | apply awp_join) | (with_reducible refine CallZ.z ?_) | simp -dsimp [go_sem, h1, hl', zeroItem, Item.row])
  · have hl' : ¬ (20000 : Int) < l.length := by omega
    rw [if_neg hl]
    unfold rHp at c1 c2
    cases hs : r'.short
    · rw [hs] at c1 c2
      simp only [Bool.false_eq_true, if_false] at c2 ⊢
      by_cases ho : ok = false ∨ 0 < r'.rest.length
      · rw [if_pos ho] at c2 ⊢
        repeat' (first | (with_reducible first | refine Cn (fun h => ?_) fun h => ?_ | refine And.intro ?_ ?_ | refine wR ?_ | exact wr _ _ | refine wa ?_ | apply awp_join | refine qg c1 ?_ | refine qgd c1 ?_ | refine qg c2 ?_ | refine qgd c2 ?_) | (with_reducible refine CallZ.z ?_) | simp -dsimp [go_sem, h1, hl', zeroItem, Item.row])
      · rw [if_neg ho] at c2 ⊢
        by_cases hc : x.check = 0
        · rw [hc] at c3
          rw [if_pos hc]
          repeat' (first | (with_reducible first | refine Cn (fun h => ?_) fun h => ?_ | refine And.intro ?_ ?_ | refine wR ?_ | exact wr _ _ | refine wa ?_ | apply awp_join | refine qg c1 ?_ | refine qgd c1 ?_ | refine qg c2 ?_ | refine qgd c2 ?_ | refine q c3 ?_ | refine qd c3 ?_ | refine qz c3 ?_) | (with_reducible refine CallZ.z ?_) | simp -dsimp [go_sem, h1, hl', Item.row])
        · have hcb : (x.check != 0) = true := by simpa using hc
          rw [if_neg hc]
          repeat' (first | (with_reducible first | refine Cn (fun h => ?_) fun h => ?_ | refine And.intro ?_ ?_ | refine wR ?_ | exact wr _ _ | refine wa ?_ | apply awp_join | refine qg c1 ?_ | refine qgd c1 ?_ | refine qg c2 ?_ | refine qgd c2 ?_ | refine q c3 ?_ | refine qd c3 ?_ | refine qz c3 ?_) | (with_reducible refine CallZ.z ?_) | simp -dsimp [go_sem, h1, hl', hcb, zeroItem, Item.row])
    · rw [hs] at c1 c2
      simp only [if_true] at c2 ⊢
      repeat' (first | (with_reducible first | refine Cn (fun h => ?_) fun h => ?_ | refine And.intro ?_ ?_ | refine wR ?_ | exact wr _ _ | refine wa ?_ | apply awp_join | refine qg c1 ?_ | refine qgd c1 ?_ | refine qg c2 ?_ | refine qgd c2 ?_) | (with_reducible refine CallZ.z ?_) | simp -dsimp [go_sem, h1, hl', zeroItem, Item.row])
end Go.Proofs.YtpdcfljbabpakaaGreatDoor
set_option linter.unusedVariables false
set_option linter.unusedSimpArgs false
set_option maxRecDepth 100000
set_option maxHeartbeats 8000000
namespace Go.Proofs.YtpdcfljbabpakaaGreatDoor
open Go Go.RowKit Go.Proofs.AE
variable {G : Nat → AV}
theorem itemB_pos (x : Item) : 0 < (itemB x).length := by simp [itemB, numB_len]; omega
theorem itemB_short {x : Item} (h : x.check = 0) : (itemB x).length ≤ 200 := by
  obtain ⟨_, _, _, _, _, h6⟩ := item_ok h
  unfold itemB
  cases x.nop
  · simp only [Bool.false_eq_true, if_false, List.length_append, numB_len, callB, List.length_cons, List.length_nil]
    split
    · rename_i hp
      rcases h6 with ⟨c1, _⟩ | ⟨_, _, _, _, c5⟩
      · omega
      · have hb := cmd_bounds c5
        simp only [cmdB, List.length_append, textB_len, numB_len, List.length_cons, List.length_nil]
        omega
    · simp
  · simp [numB_len]
theorem dec_back {x : Item} (h : x.check = 0) : decItem (itemB x) = (x, 0) := by
  have hl := itemB_short h
  have hr := itemR_app h []
  rw [List.append_nil] at hr
  unfold decItem
  rw [if_neg (by omega), hr]
  simp [h]
theorem Reads.pure {α : Type} (a : α) : Reads (fun r => (a, r)) := ⟨fun _ => rfl, fun _ _ _ => rfl⟩
end Go.Proofs.YtpdcfljbabpakaaGreatDoor
set_option linter.unusedVariables false
set_option linter.unusedSimpArgs false
set_option maxRecDepth 100000
set_option maxHeartbeats 8000000
namespace Go.Proofs.YtpdcfljbabpakaaGreatDoor
open Go Go.RowKit Go.Proofs.AE
variable {G : Nat → AV}
abbrev logC (base bt : Int) (x : List Item) : List C := [iC base, iC bt, .v (.sl (x.map Item.row))]
def chk : List Item → Int → Int → Bool
  | [], _, _ => true
  | x :: l, t, m => x.check == 0 && (decide (t ≤ x.term) && (decide (m ≤ x.time) && chk l x.term x.time))
def headOk (base bt : Int) (len : Nat) : Bool :=
  !decide (base < 0) && (!decide (bt < 0) && (!decide (1048576 < bt) && ((base == 0) == (bt == 0) && (!decide (200 < (len : Int)) && !decide (1048576 - (len : Int) < base)))))
def checkLog (base bt : Int) (x : List Item) : Int := if headOk base bt x.length then (if chk x bt 0 then 0 else 13) else 13
end Go.Proofs.YtpdcfljbabpakaaGreatDoor
set_option linter.unusedVariables false
set_option linter.unusedSimpArgs false
set_option maxRecDepth 100000
set_option maxHeartbeats 8000000
namespace Go.Proofs.YtpdcfljbabpakaaGreatDoor
open Go Go.RowKit Go.Proofs.AE
variable {G : Nat → AV}
end Go.Proofs.YtpdcfljbabpakaaGreatDoor
set_option linter.unusedVariables false
set_option linter.unusedSimpArgs false
set_option maxRecDepth 100000
set_option maxHeartbeats 8000000
namespace Go.Proofs.YtpdcfljbabpakaaGreatDoor
open Go Go.RowKit Go.Proofs.AE
theorem itemOf_check (d : Deed) (hd : d.Ok) {term time : Int} (h1 : 1 ≤ term ∧ term ≤ 1048576) (h2 : 0 ≤ time ∧ time ≤ 1073741824) : (itemOf d term time).check = 0 := by
  have hI := itemOf_call d term time
  obtain ⟨t1, t2, t3⟩ := itemOf_head d term time
  unfold Item.check
  rw [t1, t2, t3]
  generalize itemOf d term time = x at *
  have hg := callGood hd.n _ _ _ _ _ _ _ hI
  have n1 : ¬ term < 1 := by omega
  have n2 : ¬ 1048576 < term := by omega
  have n3 : ¬ time < 0 := by omega
  have n4 : ¬ 1073741824 < time := by omega
  by_cases h : pk d.client 5 = 0
  · unfold itemCall at hI
    rw [if_pos (.inl h)] at hI
    simp only [List.cons.injEq, C.v.injEq, V.lit.injEq, Value.int.injEq, Value.string.injEq, and_true, true_and] at hI
    obtain ⟨e1, e2, e3, e4, e5, e6, e7⟩ := hI
    have hnc : noCall x.client x.seq x.k x.key x.field x.text x.n = true := by
      rw [← e1, ← e2, ← e3, ← e4, ← e5, ← e6, ← e7]; decide
    simp [checkItem, n1, n2, n3, n4, h, hnc]
  · simp [checkItem, n1, n2, n3, n4, h, hg]
end Go.Proofs.YtpdcfljbabpakaaGreatDoor
set_option linter.unusedVariables false
set_option linter.unusedSimpArgs false
set_option maxRecDepth 100000
set_option maxHeartbeats 8000000
namespace Go.Proofs.YtpdcfljbabpakaaGreatDoor
open Go Go.RowKit Go.Proofs.AE
variable {G : Nat → AV}
end Go.Proofs.YtpdcfljbabpakaaGreatDoor
set_option linter.unusedVariables false
set_option linter.unusedSimpArgs false
set_option maxRecDepth 100000
set_option maxHeartbeats 8000000
namespace Go.Proofs.YtpdcfljbabpakaaGreatDoor
open Go Go.RowKit Go.Proofs.AE
end Go.Proofs.YtpdcfljbabpakaaGreatDoor
set_option linter.unusedVariables false
set_option linter.unusedSimpArgs false
set_option maxRecDepth 100000
set_option maxHeartbeats 8000000
namespace Go.Proofs.YtpdcfljbabpakaaGreatDoor
open Go Go.RowKit Go.Proofs.AE
variable {G : Nat → AV}
def Item.same (x y : Item) : Bool := (x.term == y.term) && ((x.time == y.time) && ((x.nop == y.nop) && ((x.client == y.client) && ((x.seq == y.seq) && ((x.k == y.k) && (decide (x.key = y.key) && (decide (x.field = y.field) && (decide (x.text = y.text) && (x.n == y.n)))))))))
theorem Item.same_iff (x y : Item) : x.same y = true ↔ x = y := by
  cases x; cases y; simp [Item.same]
instance : DecidableEq Item := fun x y => decidable_of_iff (x.same y = true) (Item.same_iff x y)
end Go.Proofs.YtpdcfljbabpakaaGreatDoor
set_option linter.unusedVariables false
set_option linter.unusedSimpArgs false
set_option maxRecDepth 100000
set_option maxHeartbeats 8000000
namespace Go.Proofs.YtpdcfljbabpakaaGreatDoor
open Go Go.RowKit Go.Proofs.AE
structure Rcd where
  kind : Int
  term : Int
  fr : Int
  index : Int
  item : Item
  sidx : Int
  sterm : Int
  mach : Mach
def noSnap (r : Rcd) : Bool := r.sidx == 0 && r.sterm == 0 && r.mach.next == 0 && r.mach.clis.isEmpty && r.mach.sto.now == 0 && r.mach.sto.ents.isEmpty
def checkSnap (i t : Int) (m : Mach) : Int := if okNumber i = false ∨ okNumber t = false then 2 else checkM m
def checkRc (r : Rcd) : Int :=
  if r.kind < 1 ∨ 3 < r.kind then 3
  else if (r.kind ≠ 1 ∧ (r.term ≠ 0 ∨ r.fr ≠ 0)) ∨ (r.kind ≠ 2 ∧ (r.index ≠ 0 ∨ r.item ≠ zeroItem)) ∨ (r.kind ≠ 3 ∧ noSnap r = false) then 8
  else if r.kind = 1 then (if okNumber r.term = false ∨ r.fr < -1 ∨ 3 ≤ r.fr then 2 else 0)
  else if r.kind = 2 then (if okNumber r.index = false then 2 else r.item.check)
  else checkSnap r.sidx r.sterm r.mach
def threeB (n : Int) : List UInt8 := [smallB (n / 65536), smallB (n / 256), smallB n]
def valB3 (a b c : UInt8) : Int := a.toNat * 65536 + b.toNat * 256 + c.toNat
def encRc (r : Rcd) : List UInt8 :=
  if r.kind = 1 then 1 :: (threeB r.term ++ [smallB (r.fr + 1)])
  else if r.kind = 2 then 2 :: (threeB r.index ++ itemB r.item)
  else 3 :: (threeB r.sidx ++ (threeB r.sterm ++ machB r.mach))
def frameB (r : Rcd) : List UInt8 := threeB (encRc r).length ++ encRc r
def tapeB (l : List Rcd) : List UInt8 := l.flatMap frameB
def zeroRc : Rcd := ⟨0, 0, 0, 0, zeroItem, 0, 0, zeroM⟩
def decRc (b : List UInt8) : Rcd × Bool :=
  match b with
  | [1, x, y, z, f] => let r : Rcd := ⟨1, valB3 x y z, (f.toNat : Int) - 1, 0, zeroItem, 0, 0, zeroM⟩; (r, checkRc r == 0)
  | 2 :: x :: y :: z :: t => if t = [] then (zeroRc, false) else let r : Rcd := ⟨2, 0, 0, valB3 x y z, (decItem t).1, 0, 0, zeroM⟩; (r, (decItem t).2 == 0 && checkRc r == 0)
  | 3 :: x :: y :: z :: u :: v :: w :: t => if t = [] then (zeroRc, false) else let r : Rcd := ⟨3, 0, 0, 0, zeroItem, valB3 x y z, valB3 u v w, (decM t).1⟩; (r, (decM t).2 == 0 && checkRc r == 0)
  | _ => (zeroRc, false)
def recGo : Nat → List UInt8 → List Rcd × Nat
  | 0, _ => ([], 0)
  | n + 1, d => match d with
    | x :: y :: z :: t =>
      if (t.length : Int) < valB3 x y z then ([], 0)
      else if (decRc (t.take (valB3 x y z).toNat)).2 = false then ([], 0)
      else ((decRc (t.take (valB3 x y z).toNat)).1 :: (recGo n (t.drop (valB3 x y z).toNat)).1, 3 + (valB3 x y z).toNat + (recGo n (t.drop (valB3 x y z).toNat)).2)
    | _ => ([], 0)
def recB (d : List UInt8) : List Rcd × Nat := recGo d.length d
theorem three_back {n : Int} (h0 : 0 ≤ n) (h1 : n < 16777216) : valB3 (smallB (n / 65536)) (smallB (n / 256)) (smallB n) = n := by
  unfold valB3
  have a := smallB_toNat (n := n / 65536) (by omega) (by omega)
  unfold smallB at a ⊢
  rw [UInt8.toNat_ofNat', UInt8.toNat_ofNat', UInt8.toNat_ofNat']
  omega
theorem num3 {n : Int} (h : okNumber n = true) : 0 ≤ n ∧ n < 16777216 := by unfold okNumber at h; simp at h; omega
theorem enc_len {r : Rcd} (h : checkRc r = 0) : 5 ≤ (encRc r).length ∧ (encRc r).length ≤ 13600 := by
  unfold checkRc at h
  unfold encRc
  split at h
  · cases h
  · split at h
    · cases h
    · rename_i h1 h2
      split at h
      · rename_i h3
        rw [if_pos h3]; simp [threeB]
      · rename_i h3
        rw [if_neg h3]
        split at h
        · rename_i h4
          rw [if_pos h4]
          split at h
          · cases h
          · have := itemB_short h; have := itemB_pos r.item
            simp only [List.length_cons, List.length_append, threeB, List.length_nil]; omega
        · rename_i h4
          rw [if_neg h4]
          unfold checkSnap at h
          split at h
          · cases h
          · have := machB_len (checkM_iff.1 h)
            have := machB_pos r.mach
            simp only [List.length_cons, List.length_append, threeB, List.length_nil]; omega
theorem noSnap_iff {r : Rcd} : noSnap r = true ↔ r.sidx = 0 ∧ r.sterm = 0 ∧ r.mach = zeroM := by
  obtain ⟨k, t, f, i, x, si, st, ⟨⟨now, ents⟩, next, clis⟩⟩ := r
  unfold noSnap zeroM zeroS
  simp only [Bool.and_eq_true, beq_iff_eq, List.isEmpty_iff, Mach.mk.injEq, Sto.mk.injEq]
  constructor
  · rintro ⟨⟨⟨⟨⟨a, b⟩, c⟩, d⟩, e⟩, f⟩; exact ⟨a, b, ⟨e, f⟩, c, d⟩
  · rintro ⟨a, b, ⟨e, f⟩, c, d⟩; exact ⟨⟨⟨⟨⟨a, b⟩, c⟩, d⟩, e⟩, f⟩
theorem rc_cases {r : Rcd} (h : checkRc r = 0) :
    (∃ t f, r = ⟨1, t, f, 0, zeroItem, 0, 0, zeroM⟩ ∧ okNumber t = true ∧ -1 ≤ f ∧ f < 3) ∨ (∃ i x, r = ⟨2, 0, 0, i, x, 0, 0, zeroM⟩ ∧ okNumber i = true ∧ x.check = 0) ∨ (∃ i t m, r = ⟨3, 0, 0, 0, zeroItem, i, t, m⟩ ∧ okNumber i = true ∧ okNumber t = true ∧ OkM m) := by
  unfold checkRc at h
  split at h
  · cases h
  · rename_i h1
    split at h
    · cases h
    · rename_i h2
      obtain ⟨k, t, f, i, x, si, st, m⟩ := r
      simp only at h h1 h2
      have hs : k ≠ 3 → si = 0 ∧ st = 0 ∧ m = zeroM := fun hk => by
        have : noSnap ⟨k, t, f, i, x, si, st, m⟩ = true := by
          cases hn : noSnap ⟨k, t, f, i, x, si, st, m⟩ with
          | true => rfl
          | false => exact absurd (.inr (.inr ⟨hk, hn⟩)) h2
        exact noSnap_iff.1 this
      have hi : k ≠ 2 → i = 0 ∧ x = zeroItem := fun hk => by
        refine ⟨?_, ?_⟩
        · by_cases e : i = 0; exact e; exact absurd (.inr (.inl ⟨hk, .inl e⟩)) h2
        · by_cases e : x = zeroItem; exact e; exact absurd (.inr (.inl ⟨hk, .inr e⟩)) h2
      have hm : k ≠ 1 → t = 0 ∧ f = 0 := fun hk => by
        refine ⟨?_, ?_⟩
        · by_cases e : t = 0; exact e; exact absurd (.inl ⟨hk, .inl e⟩) h2
        · by_cases e : f = 0; exact e; exact absurd (.inl ⟨hk, .inr e⟩) h2
      split at h
      · rename_i h3
        subst h3
        obtain ⟨rfl, rfl, rfl⟩ := hs (by omega)
        obtain ⟨rfl, rfl⟩ := hi (by omega)
        split at h
        · cases h
        · rename_i h4
          simp only [not_or, Bool.not_eq_false] at h4
          exact .inl ⟨t, f, rfl, h4.1, by omega, by omega⟩
      · rename_i h3
        obtain ⟨rfl, rfl⟩ := hm h3
        split at h
        · rename_i h4
          subst h4
          obtain ⟨rfl, rfl, rfl⟩ := hs (by omega)
          split at h
          · cases h
          · rename_i h5
            exact .inr (.inl ⟨i, x, rfl, by simpa using h5, h⟩)
        · rename_i h4
          have hk : k = 3 := by omega
          subst hk
          obtain ⟨rfl, rfl⟩ := hi (by omega)
          unfold checkSnap at h
          split at h
          · cases h
          · rename_i h5
            simp only [not_or, Bool.not_eq_false] at h5
            exact .inr (.inr ⟨si, st, m, rfl, h5.1, h5.2, checkM_iff.1 h⟩)
theorem dec_enc {r : Rcd} (h : checkRc r = 0) : decRc (encRc r) = (r, true) := by
  have hc := h
  rcases rc_cases h with ⟨t, f, rfl, h1, h2, h3⟩ | ⟨i, x, rfl, h1, h2⟩ | ⟨i, t, m, rfl, h1, h2, h3⟩
  · have a := num3 h1
    have e := three_back a.1 a.2
    have s := smallB_toNat (n := f + 1) (by omega) (by omega)
    have hf : ((smallB (f + 1)).toNat : Int) - 1 = f := by rw [s]; omega
    unfold encRc threeB decRc
    simp only [if_true, List.cons_append, List.nil_append, e, hf, hc]
    rfl
  · have a := num3 h1
    have e := three_back a.1 a.2
    have hp := itemB_pos x
    have hne : itemB x ≠ [] := fun h => by rw [h] at hp; simp at hp
    unfold encRc threeB decRc
    rw [if_neg (by show ¬ (2 : Int) = 1; omega), if_pos (by rfl)]
    simp only [List.cons_append, List.nil_append, hne, if_false, e, dec_back h2, hc]
    rfl
  · have a := num3 h1
    have b := num3 h2
    have e1 := three_back a.1 a.2
    have e2 := three_back b.1 b.2
    have hp := machB_pos m
    have hne : machB m ≠ [] := fun h => by rw [h] at hp; simp at hp
    have hl := machB_len h3
    unfold encRc threeB decRc
    rw [if_neg (by show ¬ (3 : Int) = 1; omega), if_neg (by show ¬ (3 : Int) = 2; omega)]
    simp only [List.cons_append, List.nil_append, hne, if_false, e1, e2, decM_back h3 (by omega), hc]
    rfl
theorem three_len (n : Int) : (threeB n).length = 3 := rfl
theorem frame_len (r : Rcd) : (frameB r).length = 3 + (encRc r).length := by unfold frameB; rw [List.length_append, three_len]
theorem tape_cons (r : Rcd) (l : List Rcd) : tapeB (r :: l) = frameB r ++ tapeB l := by unfold tapeB; rw [List.flatMap_cons]
theorem tape_app (a b : List Rcd) : tapeB (a ++ b) = tapeB a ++ tapeB b := by unfold tapeB; rw [List.flatMap_append]
theorem rec_nil (m : Nat) : recGo m [] = ([], 0) := by cases m <;> rfl
theorem rec_one {r : Rcd} (h : checkRc r = 0) (n : Nat) (t : List UInt8) : recGo (n + 1) (frameB r ++ t) = (r :: (recGo n t).1, (frameB r).length + (recGo n t).2) := by
  obtain ⟨l1, l2⟩ := enc_len h
  have e := three_back (n := ((encRc r).length : Int)) (by omega) (by omega)
  rw [frame_len]
  unfold frameB threeB
  simp only [List.cons_append, List.nil_append, recGo, e, Int.toNat_natCast, List.length_append]
  rw [if_neg (by push_cast; omega), List.take_left' rfl, List.drop_left' rfl, dec_enc h]
  simp
theorem rec_app : ∀ (l : List Rcd) (tail : List UInt8) (n : Nat), (∀ r ∈ l, checkRc r = 0) → l.length ≤ n → (∀ m, recGo m tail = ([], 0)) → recGo n (tapeB l ++ tail) = (l, (tapeB l).length)
  | [], tail, n, _, _, ht => by simpa [tapeB] using ht n
  | r :: l, tail, n, h, hn, ht => by
    obtain ⟨n, rfl⟩ : ∃ k, n = k + 1 := ⟨n - 1, by simp at hn; omega⟩
    have ih := rec_app l tail n (fun x hx => h x (List.mem_cons_of_mem _ hx)) (by simpa using hn) ht
    rw [tape_cons, List.append_assoc, rec_one (h r (List.mem_cons_self ..)), ih, List.length_append]
theorem torn_tail {r : Rcd} (h : checkRc r = 0) {k : Nat} (hk : k < (frameB r).length) (m : Nat) : recGo m ((frameB r).take k) = ([], 0) := by
  obtain ⟨l1, l2⟩ := enc_len h
  rw [frame_len] at hk
  have e := three_back (n := ((encRc r).length : Int)) (by omega) (by omega)
  cases m with
  | zero => rfl
  | succ m =>
    unfold frameB threeB
    match k, hk with
    | 0, _ => rfl
    | 1, _ => rfl
    | 2, _ => rfl
    | k + 3, hk =>
      simp only [List.cons_append, List.nil_append, List.take_succ_cons, recGo, e]
      rw [if_pos (by rw [List.length_take]; push_cast; omega)]
theorem tape_take : ∀ (l : List Rcd) (k : Nat), (∀ r ∈ l, checkRc r = 0) → ∃ j tail, j ≤ l.length ∧ (tapeB l).take k = tapeB (l.take j) ++ tail ∧ (∀ m, recGo m tail = ([], 0)) ∧ (tapeB (l.take j)).length ≤ k ∧ (j < l.length → k < (tapeB (l.take (j + 1))).length)
  | [], k, _ => ⟨0, [], Nat.le_refl _, by simp [tapeB], rec_nil, by simp [tapeB], fun h => absurd h (Nat.lt_irrefl _)⟩
  | r :: l, k, h => by
    have hr := h r (List.mem_cons_self ..)
    by_cases hk : k < (frameB r).length
    · refine ⟨0, (frameB r).take k, Nat.zero_le _, ?_, torn_tail hr hk, by simp [tapeB], fun _ => ?_⟩
      · rw [tape_cons, List.take_append_of_le_length (by omega)]; simp [tapeB]
      · rw [List.take_succ_cons, List.take_zero, tape_cons]; simp [tapeB]; omega
    · obtain ⟨j, tail, h1, h2, h3, h4, h5⟩ := tape_take l (k - (frameB r).length) fun x hx => h x (List.mem_cons_of_mem _ hx)
      refine ⟨j + 1, tail, by simpa using h1, ?_, h3, ?_, fun hj => ?_⟩
      · rw [tape_cons, List.take_succ_cons, tape_cons, List.append_assoc, ← h2, List.take_append, List.take_of_length_le (by omega)]
      · rw [List.take_succ_cons, tape_cons, List.length_append]; omega
      · have := h5 (by simpa using hj)
        rw [List.take_succ_cons, tape_cons, List.length_append]; omega
theorem take_len_le (l : List Rcd) : l.length ≤ (tapeB l).length := by
  induction l with
  | nil => simp
  | cons r l ih => rw [tape_cons, List.length_append, frame_len, List.length_cons]; omega
theorem recB_take {l : List Rcd} (h : ∀ r ∈ l, checkRc r = 0) (k : Nat) : ∃ j, j ≤ l.length ∧ recB ((tapeB l).take k) = (l.take j, (tapeB (l.take j)).length) ∧ (tapeB (l.take j)).length ≤ k ∧ (j < l.length → k < (tapeB (l.take (j + 1))).length) ∧ (tapeB l).take (tapeB (l.take j)).length = tapeB (l.take j) := by
  obtain ⟨j, tail, h1, h2, h3, h4, h5⟩ := tape_take l k h
  refine ⟨j, h1, ?_, h4, h5, ?_⟩
  · unfold recB
    rw [h2]
    refine rec_app (l.take j) tail _ (fun r hr => h r (List.mem_of_mem_take hr)) ?_ h3
    have := take_len_le (l.take j)
    rw [List.length_append]; omega
  · have e : tapeB l = tapeB (l.take j) ++ tapeB (l.drop j) := by rw [← tape_app, List.take_append_drop]
    rw [e, List.take_left' rfl]
theorem recB_all {l : List Rcd} (h : ∀ r ∈ l, checkRc r = 0) : recB (tapeB l) = (l, (tapeB l).length) := by
  unfold recB
  have := rec_app l [] (tapeB l).length h (take_len_le l) rec_nil
  rwa [List.append_nil] at this
theorem recB_mono {l : List Rcd} {k n : Nat} {j : Nat} (hj : j ≤ l.length) (hk : (tapeB (l.take j)).length ≤ k) {i : Nat} (hi : i ≤ l.length) (h5 : i < l.length → k < (tapeB (l.take (i + 1))).length) : j ≤ i := by
  apply Classical.not_not.1
  intro hlt
  have hlt : i < j := by omega
  have h := h5 (by omega)
  have hp : (tapeB (l.take (i + 1))).length ≤ (tapeB (l.take j)).length := by
    have e : l.take j = l.take (i + 1) ++ (l.take j).drop (i + 1) := by
      conv => lhs; rw [← List.take_append_drop (i + 1) (l.take j)]
      rw [List.take_take, Nat.min_eq_left (by omega)]
    rw [e, tape_app, List.length_append]; omega
  omega
theorem tapeB_len {l : List Rcd} (h : ∀ r ∈ l, checkRc r = 0) : (tapeB l).length ≤ l.length * 13603 := by
  induction l with
  | nil => simp [tapeB]
  | cons r l ih =>
    have := ih fun x hx => h x (List.mem_cons_of_mem _ hx)
    have h1 := (enc_len (h r (List.mem_cons_self ..))).2
    rw [tape_cons, List.length_append, frame_len, List.length_cons, Nat.add_mul]; omega
end Go.Proofs.YtpdcfljbabpakaaGreatDoor
set_option linter.unusedVariables false
set_option linter.unusedSimpArgs false
set_option maxRecDepth 100000
set_option maxHeartbeats 8000000
namespace Go.Proofs.YtpdcfljbabpakaaGreatDoor
open Go Go.RowKit Go.Proofs.AE
structure Lg where
  base : Int
  bt : Int
  items : List Item
def Lg.c (g : Lg) : List C := logC g.base g.bt g.items
def Lg.check (g : Lg) : Int := checkLog g.base g.bt g.items
structure Dsk where
  term : Int
  fr : Int
  sidx : Int
  sterm : Int
  mach : Mach
  log : Lg
def Dsk.c (d : Dsk) : List C := [iC d.term, iC d.fr, iC d.sidx, iC d.sterm] ++ d.mach.c ++ d.log.c
end Go.Proofs.YtpdcfljbabpakaaGreatDoor
set_option linter.unusedVariables false
set_option linter.unusedSimpArgs false
set_option maxRecDepth 100000
set_option maxHeartbeats 8000000
namespace Go.Proofs.YtpdcfljbabpakaaGreatDoor
open Go Go.RowKit Go.Proofs.AE
def markRc (t f : Int) : Rcd := ⟨1, t, f, 0, zeroItem, 0, 0, zeroM⟩
theorem markRc_ok {t f : Int} (ht : 1 ≤ t ∧ t ≤ 1048576) (hf : -1 ≤ f ∧ f < 3) : checkRc (markRc t f) = 0 := by
  have hn : okNumber t = true := by unfold okNumber; simp; omega
  have hs : noSnap (markRc t f) = true := rfl
  unfold checkRc
  rw [hs]
  simp [markRc, hn]
  omega
def loadRc (i t : Int) (m : Mach) : Rcd := ⟨3, 0, 0, 0, zeroItem, i, t, m⟩
theorem loadRc_ok {i t : Int} {m : Mach} (hi : 1 ≤ i ∧ i ≤ 1048576) (ht : 1 ≤ t ∧ t ≤ 1048576) (hm : OkM m) : checkRc (loadRc i t m) = 0 := by
  have h1 : okNumber i = true := by unfold okNumber; simp; omega
  have h2 : okNumber t = true := by unfold okNumber; simp; omega
  unfold checkRc checkSnap
  simp [loadRc, h1, h2, checkM_iff.2 hm]
end Go.Proofs.YtpdcfljbabpakaaGreatDoor
set_option linter.unusedVariables false
set_option linter.unusedSimpArgs false
set_option maxRecDepth 100000
set_option maxHeartbeats 8000000
namespace Go.Proofs.YtpdcfljbabpakaaGreatDoor
open Go Go.RowKit Go.Proofs.AE
variable {G : Nat → AV}
theorem weak_thaw {k : Nat} {s : S} (b o e m : Nat) {t : TypeId} {cs : List C} (h1 : s.hp[b]? = some (some (.box t cs))) (h2 : cs[o]? = some .nil) (hm : 0 < m) :
    Weak k s { s with hp := s.hp.set b (some (.box t (cs.set o (.ar s.hp.length)))) ++ [some (.arr e m [])] } :=
  ⟨rfl, fun n w ok μ a hst => ⟨ok, _, hst.step (hr_thaw hst.hr h1 h2 hm), (hr_thaw hst.hr h1 h2 hm).far⟩⟩
def tstE (now : Int) (p : Option Ent) (e : Ent) : Bool := !okField e.key || checkV e.val != 0 || (match p with | some p => !decide (cmpB p.key e.key < 0) | none => false) || (e.till != 0 && (decide (e.till ≤ now) || decide (1073741824 < e.till)))
def chkE (now : Int) : Option Ent → List Ent → Int
  | _, [] => 0
  | p, e :: r => if tstE now p e = true then 13 else chkE now (some e) r
theorem chkE_eq (now : Int) : ∀ (l : List Ent) (p : Option Ent), chkE now p l = if l.any (entBad now) = true then 13 else if rising bE ((match p with | some p => [p] | none => []) ++ l) = true then 0 else 13
  | [], p => by cases p <;> rfl
  | e :: r, p => by
    have ih := chkE_eq now r (some e)
    unfold chkE tstE
    rw [ih]
    have hb : entBad now e = (!okField e.key || checkV e.val != 0 || (e.till != 0 && (decide (e.till ≤ now) || decide (1073741824 < e.till)))) := rfl
    cases p with
    | none =>
      simp only [List.any_cons, hb, List.nil_append, List.singleton_append]
      cases (!okField e.key || checkV e.val != 0) <;> cases (e.till != 0 && (decide (e.till ≤ now) || decide (1073741824 < e.till))) <;> simp
    | some p =>
      have hr : rising bE ([p] ++ e :: r) = (decide (bE p e < 0) && rising bE (e :: r)) := rfl
      have hr2 : rising bE (p :: e :: r) = (decide (bE p e < 0) && rising bE (e :: r)) := rfl
      simp only [List.any_cons, hb, hr, List.singleton_append]
      have hd : decide (cmpB p.key e.key < 0) = decide (bE p e < 0) := rfl
      rw [hd]
      cases (!okField e.key || checkV e.val != 0) <;> cases (e.till != 0 && (decide (e.till ≤ now) || decide (1073741824 < e.till))) <;> cases hbe : decide (bE p e < 0) <;> simp [hr2, hbe]
theorem okField_alt (s : ByteArray) : okField s = !(decide ((s.size : Int) < 1) || decide (12 < (s.size : Int))) := by
  unfold okField
  rw [Bool.eq_iff_iff]
  simp <;> omega
def prevE (l : List Ent) (i : Nat) : Option Ent := if i = 0 then none else l[i - 1]?
theorem chkE_drop (now : Int) {l : List Ent} {i : Nat} {e : Ent} (h : l[i]? = some e) : chkE now (prevE l i) (l.drop i) = if tstE now (prevE l i) e = true then 13 else chkE now (prevE l (i + 1)) (l.drop (i + 1)) := by
  have hl := (List.getElem?_eq_some_iff.1 h).1
  have hx := (List.getElem?_eq_some_iff.1 h).2
  rw [List.drop_eq_getElem_cons hl, hx]
  have hp : prevE l (i + 1) = some e := by unfold prevE; simpa using h
  rw [hp]
  rfl
theorem checkS_chk (s : Sto) : checkS s = if s.now < 0 ∨ 1073741824 < s.now ∨ 12 < s.ents.length then 13 else chkE s.now none s.ents := by
  unfold checkS
  rw [chkE_eq]
  rfl
theorem checkS_c (s : Sto) (hs : s.Small) : PCall Tryz.prog G 77 [.agg s.c] (iV (checkS s)) := by
  obtain ⟨now, l⟩ := s
  obtain ⟨s1, s2⟩ := hs
  simp only at s1 s2
  rw [checkS_chk]
  simp only [Sto.c]
  by_cases hb : now < 0 ∨ 1073741824 < now ∨ 12 < l.length
  · rw [if_pos hb]
    refine pcallc mixed Tryz.func77 ac_store_Check ?_
    repeat' (first | (with_reducible first | refine Cn (fun h => ?_) fun h => ?_ | refine And.intro ?_ ?_ | refine wR ?_ | exact wr _ _ | refine wa ?_ | apply awp_join) | (with_reducible refine CallZ.z ?_) | simp -dsimp [go_sem])
    all_goals (exfalso; clear s2; simp at *; omega)
  · rw [if_neg hb]
    have b1 : decide (now < 0) = false := by simp; omega
    have b2 : decide (1073741824 < now) = false := by simp; omega
    have b3 : decide (12 < (l.length : Int)) = false := by simp; omega
    refine pcallc mixed Tryz.func77 ac_store_Check ?_
    repeat' (first | (with_reducible first | refine Cn (fun h => ?_) fun h => ?_ | refine And.intro ?_ ?_ | refine wR ?_ | exact wr _ _ | refine wa ?_ | apply awp_join) | (with_reducible refine CallZ.z ?_) | simp -dsimp [go_sem, b1, b2, b3])
    refine awp_loop (fun i : Nat => ⟨[(1, .one (.ptr 0 0)), (20, .one (.v (.sl (eR l)))), (21, iV l.length), (22, iV i)], G, [some (.box 25 [iC now, .v (.sl (eR l))])]⟩) (fun i => i ≤ l.length ∧ chkE now none l = chkE now (prevE l i) (l.drop i)) (fun i => l.length - i) 0 (weak_auto ?_) ⟨Nat.zero_le _, rfl⟩ ?_
    · simp -dsimp [go_sem]
    · rintro i ⟨hi, hx⟩
      rw [hx]
      by_cases hlt : i < l.length
      · obtain ⟨e, he⟩ : ∃ e, l[i]? = some e := ⟨_, List.getElem?_eq_getElem hlt⟩
        have e4 : IntKind.i64.wrap ((i : Int) + 1) = (i : Int) + 1 := IntWalk.i64_in _ (by omega)
        have q1 : decide (i < l.length) = true := by simpa using hlt
        have hcv := checkV_c (G := G) e.val (s2 e (List.mem_of_getElem? he))
        rw [chkE_drop now he]
        obtain ⟨T, hT⟩ : ∃ T, tstE now (prevE l i) e = T := ⟨_, rfl⟩
        have hT' := hT
        unfold tstE at hT'
        rw [okField_alt] at hT'
        obtain ⟨N, hN⟩ : ∃ N, chkE now (prevE l (i + 1)) (l.drop (i + 1)) = N := ⟨_, rfl⟩
        rw [hT, hN]
        clear hT
        obtain ⟨V, hV⟩ : ∃ V, checkV e.val = V := ⟨_, rfl⟩
        rw [hV] at hcv hT'
        obtain ⟨key, ⟨vk, vt, vn, vp, vi, vs⟩, till⟩ := e
        simp only [Val.c] at hcv
        simp only at hT'
        have hag : i + 1 ≤ l.length ∧ N = chkE now (prevE l (i + 1)) (l.drop (i + 1)) := ⟨hlt, hN.symm⟩
        by_cases h0 : i = 0
        · have q2 : decide (0 < i) = false := by simp; omega
          have hp : prevE l i = none := by unfold prevE; rw [if_pos h0]
          rw [hp] at hT'
          simp only at hT'
          repeat' (first | (with_reducible first | refine Cn (fun h => ?_) fun h => ?_ | refine And.intro ?_ ?_ | refine wR ?_ | exact wr _ _ | refine wa ?_ | apply awp_join | refine q hcv ?_ | refine qd hcv ?_ | refine qz hcv ?_) | (with_reducible refine CallZ.z ?_) | simp -dsimp [go_sem, he, Ent.row, e4, q1, q2])
          all_goals first
            | omega
            | (have hTt : T = true := by (rw [← hT']; simp [*])
               simp [hTt]; done)
            | (have hTf : T = false := by (rw [← hT']; simp [*])
               rw [hTf]
               refine Again.auto (i + 1) ?_ ?_ ?_
               · simp -dsimp [go_sem]
               · exact hag
               · show l.length - (i + 1) < l.length - i; omega)
        · obtain ⟨j, hj⟩ : ∃ j, i = j + 1 := ⟨i - 1, by omega⟩
          have q2 : decide (0 < i) = true := by simp; omega
          obtain ⟨p, hpj⟩ : ∃ p, l[j]? = some p := ⟨_, List.getElem?_eq_getElem (by omega)⟩
          have hp : prevE l i = some p := by unfold prevE; rw [if_neg h0, hj]; simpa using hpj
          rw [hp] at hT'
          have e5 : IntKind.i64.wrap ((i : Int) - 1) = (j : Int) := by rw [IntWalk.i64_in _ (by omega)]; omega
          have e6 : lessB p.key key = decide (cmpB p.key key < 0) := lessB_eq _ _
          obtain ⟨pkey, ⟨wk, wt, wn, wp, wi, ws⟩, ptill⟩ := p
          simp only at hT' e6
          repeat' (first | (with_reducible first | refine Cn (fun h => ?_) fun h => ?_ | refine And.intro ?_ ?_ | refine wR ?_ | exact wr _ _ | refine wa ?_ | apply awp_join | refine q hcv ?_ | refine qd hcv ?_ | refine qz hcv ?_) | (with_reducible refine CallZ.z ?_) | simp -dsimp [go_sem, he, hpj, Ent.row, e4, e5, q1, q2, e6])
          all_goals first
            | omega
            | (have hTt : T = true := by (rw [← hT']; simp [*])
               simp [hTt]; done)
            | (have hTf : T = false := by (rw [← hT']; simp [*])
               rw [hTf]
               refine Again.auto (i + 1) ?_ ?_ ?_
               · simp -dsimp [go_sem]
               · exact hag
               · show l.length - (i + 1) < l.length - i; omega)
      · have hn : l.drop i = [] := List.drop_eq_nil_of_le (by omega)
        have q1 : decide (i < l.length) = false := by simpa using hlt
        rw [hn]
        unfold chkE
        repeat' (first | (with_reducible first | refine Cn (fun h => ?_) fun h => ?_ | refine And.intro ?_ ?_ | refine wR ?_ | exact wr _ _ | refine wa ?_ | apply awp_join) | (with_reducible refine CallZ.z ?_) | simp -dsimp [go_sem, q1])
end Go.Proofs.YtpdcfljbabpakaaGreatDoor
set_option linter.unusedVariables false
set_option linter.unusedSimpArgs false
set_option maxRecDepth 100000
set_option maxHeartbeats 8000000
namespace Go.Proofs.YtpdcfljbabpakaaGreatDoor
open Go Go.RowKit Go.Proofs.AE
variable {G : Nat → AV}
theorem ul_str (l : List ByteArray) : UL 1 (strRows l) := by
  intro r hr
  obtain ⟨y, _, rfl⟩ := List.mem_map.1 hr
  rfl
theorem checkR_c (r : Rep) : PCall Tryz.prog G 78 [.agg r.c] (iV (checkR r)) := checkReply_c r.code r.text r.n r.list
theorem checkCl_c (c : Cal) : PCall Tryz.prog G 79 [.agg c.c] (iV (checkCl c)) := checkCall_c c.client c.seq c.cmd.kind c.cmd.key c.cmd.field c.cmd.text c.cmd.n
def tstC (next now : Int) (p : Option Cli) (x : Cli) : Bool := decide (x.id < 1) || decide (next ≤ x.id) || (match p with | some p => decide (x.id ≤ p.id) | none => false) || decide (x.seq < 0) || decide (1048576 < x.seq) || decide (x.time < 0) || decide (now < x.time) || (checkR x.reply != 0)
def chkC (next now : Int) : Option Cli → List Cli → Int
  | _, [] => 0
  | p, x :: r => if tstC next now p x = true then 13 else chkC next now (some x) r
theorem tstC_eq (next now : Int) (p : Option Cli) (x : Cli) : tstC next now p x = (badC next now x || (match p with | some p => !decide (cI p x < 0) | none => false)) := by
  unfold tstC badC cI
  cases p with
  | none => simp
  | some p =>
    have : decide (x.id ≤ p.id) = !decide (p.id - x.id < 0) := by
      by_cases h : x.id ≤ p.id
      · have h2 : ¬ p.id - x.id < 0 := by omega
        simp [h, h2]
      · have h2 : p.id - x.id < 0 := by omega
        simp [h, h2]
    simp only [this]
    generalize (!decide (p.id - x.id < 0)) = b
    cases b <;> simp
theorem chkC_eq (next now : Int) : ∀ (l : List Cli) (p : Option Cli), chkC next now p l = if l.any (badC next now) = true then 13 else if rising cI ((match p with | some p => [p] | none => []) ++ l) = true then 0 else 13
  | [], p => by cases p <;> rfl
  | x :: r, p => by
    have ih := chkC_eq next now r (some x)
    unfold chkC
    rw [ih, tstC_eq]
    cases p with
    | none =>
      obtain ⟨b, hb⟩ : ∃ b, badC next now x = b := ⟨_, rfl⟩
      rw [List.any_cons, hb]
      cases b <;> simp
    | some p =>
      have hr : rising cI ([p] ++ x :: r) = (decide (cI p x < 0) && rising cI (x :: r)) := rfl
      obtain ⟨b, hb⟩ : ∃ b, badC next now x = b := ⟨_, rfl⟩
      obtain ⟨d, hd⟩ : ∃ d, decide (cI p x < 0) = d := ⟨_, rfl⟩
      simp only [List.any_cons, hr, hb, hd]
      cases b <;> cases d <;> simp
def prevC (l : List Cli) (i : Nat) : Option Cli := if i = 0 then none else l[i - 1]?
theorem chkC_drop (next now : Int) {l : List Cli} {i : Nat} {x : Cli} (h : l[i]? = some x) : chkC next now (prevC l i) (l.drop i) = if tstC next now (prevC l i) x = true then 13 else chkC next now (prevC l (i + 1)) (l.drop (i + 1)) := by
  have hl := (List.getElem?_eq_some_iff.1 h).1
  have hx := (List.getElem?_eq_some_iff.1 h).2
  rw [List.drop_eq_getElem_cons hl, hx]
  have hp : prevC l (i + 1) = some x := by unfold prevC; simpa using h
  rw [hp]
  rfl
theorem checkM_chk (m : Mach) : checkM m = if checkS m.sto ≠ 0 ∨ m.next < 1 ∨ 1048577 < m.next ∨ 4 < m.clis.length then 13 else chkC m.next m.sto.now none m.clis := by
  unfold checkM
  rw [chkC_eq]
  rfl
theorem checkM_c (m : Mach) (hs : m.sto.Small) (hl : m.clis.length ≤ 1000000) : PCall Tryz.prog G 41 [.agg m.c] (iV (checkM m)) := by
  have hcs := checkS_c (G := G) m.sto hs
  rw [checkM_chk]
  obtain ⟨V, hV⟩ : ∃ V, checkS m.sto = V := ⟨_, rfl⟩
  rw [hV] at hcs ⊢
  obtain ⟨⟨now, ents⟩, next, l⟩ := m
  simp only at hl
  simp only [Mach.c, Sto.c] at hcs ⊢
  by_cases hb : V ≠ 0 ∨ next < 1 ∨ 1048577 < next ∨ 4 < l.length
  · rw [if_pos hb]
    by_cases b0 : V ≠ 0
    · have q0 : (V != 0) = true := by simpa using b0
      refine pcallc mixed Tryz.func41 ac_client_Check ?_
      repeat' (first | (with_reducible first | refine Cn (fun h => ?_) fun h => ?_ | refine And.intro ?_ ?_ | refine wR ?_ | exact wr _ _ | refine wa ?_ | apply awp_join | refine q hcs ?_ | refine qd hcs ?_ | refine qz hcs ?_) | (with_reducible refine CallZ.z ?_) | simp -dsimp [go_sem, q0])
    · have q0 : (V != 0) = false := by simpa using b0
      by_cases b1 : next < 1
      · have q1 : decide (next < 1) = true := by simpa using b1
        refine pcallc mixed Tryz.func41 ac_client_Check ?_
        repeat' (first | (with_reducible first | refine Cn (fun h => ?_) fun h => ?_ | refine And.intro ?_ ?_ | refine wR ?_ | exact wr _ _ | refine wa ?_ | apply awp_join | refine q hcs ?_ | refine qd hcs ?_ | refine qz hcs ?_) | (with_reducible refine CallZ.z ?_) | simp -dsimp [go_sem, q0, q1])
      · have q1 : decide (next < 1) = false := by simpa using b1
        by_cases b2 : 1048577 < next
        · have q2 : decide (1048577 < next) = true := by simpa using b2
          refine pcallc mixed Tryz.func41 ac_client_Check ?_
          repeat' (first | (with_reducible first | refine Cn (fun h => ?_) fun h => ?_ | refine And.intro ?_ ?_ | refine wR ?_ | exact wr _ _ | refine wa ?_ | apply awp_join | refine q hcs ?_ | refine qd hcs ?_ | refine qz hcs ?_) | (with_reducible refine CallZ.z ?_) | simp -dsimp [go_sem, q0, q1, q2])
        · have q2 : decide (1048577 < next) = false := by simpa using b2
          have q3 : decide (4 < (l.length : Int)) = true := by simp; omega
          refine pcallc mixed Tryz.func41 ac_client_Check ?_
          repeat' (first | (with_reducible first | refine Cn (fun h => ?_) fun h => ?_ | refine And.intro ?_ ?_ | refine wR ?_ | exact wr _ _ | refine wa ?_ | apply awp_join | refine q hcs ?_ | refine qd hcs ?_ | refine qz hcs ?_) | (with_reducible refine CallZ.z ?_) | simp -dsimp [go_sem, q0, q1, q2, q3])
  · rw [if_neg hb]
    simp only [not_or, Classical.not_not] at hb
    have q0 : (V != 0) = false := by simpa using hb.1
    have q1 : decide (next < 1) = false := by simp; omega
    have q2 : decide (1048577 < next) = false := by simp; omega
    have q3 : decide (4 < (l.length : Int)) = false := by simp; omega
    refine pcallc mixed Tryz.func41 ac_client_Check ?_
    repeat' (first | (with_reducible first | refine Cn (fun h => ?_) fun h => ?_ | refine And.intro ?_ ?_ | refine wR ?_ | exact wr _ _ | refine wa ?_ | apply awp_join | refine q hcs ?_ | refine qd hcs ?_ | refine qz hcs ?_) | (with_reducible refine CallZ.z ?_) | simp -dsimp [go_sem, q0, q1, q2, q3])
    refine awp_loop (fun i : Nat => ⟨[(1, .one (.ptr 0 0)), (26, .one (.v (.sl (clR l)))), (27, iV l.length), (28, iV i)], G, [some (.box 28 [iC now, .v (.sl (eR ents)), iC next, .v (.sl (clR l))])]⟩) (fun i => i ≤ l.length ∧ chkC next now none l = chkC next now (prevC l i) (l.drop i)) (fun i => l.length - i) 0 (weak_auto ?_) ⟨Nat.zero_le _, rfl⟩ ?_
    · simp -dsimp [go_sem]
    · rintro i ⟨hi, hx⟩
      rw [hx]
      by_cases hlt : i < l.length
      · obtain ⟨x, he⟩ : ∃ x, l[i]? = some x := ⟨_, List.getElem?_eq_getElem hlt⟩
        have e4 : IntKind.i64.wrap ((i : Int) + 1) = (i : Int) + 1 := IntWalk.i64_in _ (by omega)
        have q4 : decide (i < l.length) = true := by simpa using hlt
        have hcr := checkR_c (G := G) x.reply
        rw [chkC_drop next now he]
        obtain ⟨T, hT⟩ : ∃ T, tstC next now (prevC l i) x = T := ⟨_, rfl⟩
        have hT' := hT
        unfold tstC at hT'
        obtain ⟨N, hN⟩ : ∃ N, chkC next now (prevC l (i + 1)) (l.drop (i + 1)) = N := ⟨_, rfl⟩
        rw [hT, hN]
        clear hT
        obtain ⟨R, hR⟩ : ∃ R, checkR x.reply = R := ⟨_, rfl⟩
        rw [hR] at hcr hT'
        obtain ⟨id, seq, time, ⟨rc, rt, rn, rl⟩⟩ := x
        simp only [Rep.c] at hcr
        simp only at hT'
        have hag : i + 1 ≤ l.length ∧ N = chkC next now (prevC l (i + 1)) (l.drop (i + 1)) := ⟨hlt, hN.symm⟩
        by_cases h0 : i = 0
        · have q5 : decide (0 < i) = false := by simp; omega
          have hp : prevC l i = none := by unfold prevC; rw [if_pos h0]
          rw [hp] at hT'
          simp only at hT'
          repeat' (first | (with_reducible first | refine Cn (fun h => ?_) fun h => ?_ | refine And.intro ?_ ?_ | refine wR ?_ | exact wr _ _ | refine wa ?_ | apply awp_join | refine q hcr ?_ | refine qd hcr ?_ | refine qz hcr ?_) | (with_reducible refine CallZ.z ?_) | simp -dsimp [go_sem, he, Cli.row, e4, q4, q5])
          all_goals first
            | omega
            | (have hTt : T = true := by (rw [← hT']; simp [*])
               simp [hTt]; done)
            | (have hTf : T = false := by (rw [← hT']; simp [*])
               rw [hTf]
               refine Again.auto (i + 1) ?_ ?_ ?_
               · simp -dsimp [go_sem]
               · exact hag
               · show l.length - (i + 1) < l.length - i; omega)
            | trace_state
        · have q5 : decide (0 < i) = true := by simp; omega
          obtain ⟨j, hj⟩ : ∃ j, i = j + 1 := ⟨i - 1, by omega⟩
          obtain ⟨p, hpj⟩ : ∃ p, l[j]? = some p := ⟨_, List.getElem?_eq_getElem (by omega)⟩
          have hp : prevC l i = some p := by unfold prevC; rw [if_neg h0, hj]; simpa using hpj
          rw [hp] at hT'
          have e5 : IntKind.i64.wrap ((i : Int) - 1) = (j : Int) := by rw [IntWalk.i64_in _ (by omega)]; omega
          obtain ⟨pid, pseq, ptime, ⟨pc, pt, pn, pl⟩⟩ := p
          simp only at hT'
          repeat' (first | (with_reducible first | refine Cn (fun h => ?_) fun h => ?_ | refine And.intro ?_ ?_ | refine wR ?_ | exact wr _ _ | refine wa ?_ | apply awp_join | refine q hcr ?_ | refine qd hcr ?_ | refine qz hcr ?_) | (with_reducible refine CallZ.z ?_) | simp -dsimp [go_sem, he, hpj, Cli.row, e4, e5, q4, q5])
          all_goals first
            | omega
            | (have hTt : T = true := by (rw [← hT']; simp [*])
               simp [hTt]; done)
            | (have hTf : T = false := by (rw [← hT']; simp [*])
               rw [hTf]
               refine Again.auto (i + 1) ?_ ?_ ?_
               · simp -dsimp [go_sem]
               · exact hag
               · show l.length - (i + 1) < l.length - i; omega)
            | trace_state
      · have hn : l.drop i = [] := List.drop_eq_nil_of_le (by omega)
        have q4 : decide (i < l.length) = false := by simpa using hlt
        rw [hn]
        unfold chkC
        repeat' (first | (with_reducible first | refine Cn (fun h => ?_) fun h => ?_ | refine And.intro ?_ ?_ | refine wR ?_ | exact wr _ _ | refine wa ?_ | apply awp_join) | (with_reducible refine CallZ.z ?_) | simp -dsimp [go_sem, q4])
end Go.Proofs.YtpdcfljbabpakaaGreatDoor
set_option linter.unusedVariables false
set_option linter.unusedSimpArgs false
set_option maxRecDepth 100000
set_option maxHeartbeats 8000000
namespace Go.Proofs.YtpdcfljbabpakaaGreatDoor
open Go Go.RowKit Go.Proofs.AE
variable {G : Nat → AV}
def Rcd.c (r : Rcd) : List C := [iC r.kind, iC r.term, iC r.fr, iC r.index, iC r.item.term, iC r.item.time, bC r.item.nop, iC r.item.client, iC r.item.seq, iC r.item.k, sC r.item.key, sC r.item.field, sC r.item.text, iC r.item.n, iC r.sidx, iC r.sterm, iC r.mach.sto.now, .v (.sl (eR r.mach.sto.ents)), iC r.mach.next, .v (.sl (clR r.mach.clis))]
def Rcd.row (r : Rcd) : List V := [iL r.kind, iL r.term, iL r.fr, iL r.index, iL r.item.term, iL r.item.time, .lit (.bool r.item.nop), iL r.item.client, iL r.item.seq, iL r.item.k, sL r.item.key, sL r.item.field, sL r.item.text, iL r.item.n, iL r.sidx, iL r.sterm, iL r.mach.sto.now, .sl (eR r.mach.sto.ents), iL r.mach.next, .sl (clR r.mach.clis)]
theorem tnumber_c (n : Int) : PCall Tryz.prog G 40 [iV n] (bV (okNumber n)) := by
  refine pcallc mixed Tryz.func40 ac_tape_number ?_
  unfold okNumber
  repeat' (first | (with_reducible first | refine Cn (fun h => ?_) fun h => ?_ | refine And.intro ?_ ?_ | refine wR ?_ | exact wr _ _ | refine wa ?_ | apply awp_join) | (with_reducible refine CallZ.z ?_) | simp -dsimp [go_sem])
  all_goals first | (simp_all; done) | (intro hh; simp_all)
def noSnapS (i t : Int) (m : Mach) : Bool := i == 0 && (t == 0 && (m.next == 0 && ((m.clis.length : Int) == 0 && (m.sto.now == 0 && (m.sto.ents.length : Int) == 0))))
theorem noSnap_c (i t : Int) (m : Mach) : PCall Tryz.prog G 42 [.agg ([iC i, iC t] ++ m.c)] (bV (noSnapS i t m)) := by
  obtain ⟨⟨now, es⟩, next, cs⟩ := m
  have h1 : (eR es).length = es.length := by simp
  have h2 : (clR cs).length = cs.length := by simp
  unfold noSnapS
  simp only [Mach.c, List.cons_append, List.nil_append]
  refine pcallc mixed Tryz.func42 ac_tape_noSnap ?_
  repeat' (first | (with_reducible first | refine Cn (fun h => ?_) fun h => ?_ | refine And.intro ?_ ?_ | refine wR ?_ | exact wr _ _ | refine wa ?_ | apply awp_join) | (with_reducible refine CallZ.z ?_) | simp -dsimp [go_sem, h1, h2])
  all_goals first | (simp_all; done) | trace_state
theorem len_empty {α : Type} (l : List α) : ((l.length : Int) == 0) = l.isEmpty := by
  cases l with
  | nil => rfl
  | cons a l => rw [List.isEmpty_cons, beq_eq_false_iff_ne, List.length_cons]; omega
theorem noSnapS_eq (r : Rcd) : noSnapS r.sidx r.sterm r.mach = noSnap r := by
  unfold noSnapS noSnap
  have h1 : ((r.mach.clis.length : Int) == 0) = r.mach.clis.isEmpty := len_empty _
  have h2 : ((r.mach.sto.ents.length : Int) == 0) = r.mach.sto.ents.isEmpty := len_empty _
  rw [h1, h2]
  simp only [Bool.and_assoc]
theorem checkSnap_c (i t : Int) (m : Mach) (h1 : m.sto.Small) (h2 : m.clis.length ≤ 1000000) : PCall Tryz.prog G 16 [.agg ([iC i, iC t] ++ m.c)] (iV (checkSnap i t m)) := by
  have hck := checkM_c (G := G) m h1 h2
  have n1 := tnumber_c (G := G) i
  have n2 := tnumber_c (G := G) t
  unfold checkSnap
  generalize checkM m = v at *
  generalize okNumber i = a at *
  generalize okNumber t = b at *
  obtain ⟨⟨now, es⟩, next, cs⟩ := m
  simp only [Mach.c, List.cons_append, List.nil_append] at *
  cases a <;> cases b
  all_goals
    refine pcallc mixed Tryz.func16 ac_tape_CheckSnap ?_
    repeat' (first | (with_reducible first | refine Cn (fun h => ?_) fun h => ?_ | refine And.intro ?_ ?_ | refine wR ?_ | exact wr _ _ | refine wa ?_ | apply awp_join | refine q n1 ?_ | refine qd n1 ?_ | refine qz n1 ?_ | refine q n2 ?_ | refine qd n2 ?_ | refine qz n2 ?_ | refine q hck ?_ | refine qd hck ?_ | refine qz hck ?_) | (with_reducible refine CallZ.z ?_) | simp -dsimp [go_sem])
  all_goals first | (simp_all; done) | trace_state
def zItem (x : Item) : Bool := x.term == 0 && (x.time == 0 && (!x.nop && (x.client == 0 && (x.seq == 0 && (x.k == 0 && (decide (x.key = ⟨#[]⟩) && (decide (x.field = ⟨#[]⟩) && (decide (x.text = ⟨#[]⟩) && x.n == 0))))))))
theorem zItem_iff {x : Item} : zItem x = true ↔ x = zeroItem := by
  obtain ⟨a, b, c, d, e, f, g, h, i, j⟩ := x
  unfold zItem zeroItem
  cases c <;> simp
theorem checkRc_eq (r : Rcd) : checkRc r = if r.kind < 1 ∨ 3 < r.kind then 3
  else if (r.kind ≠ 1 ∧ (r.term ≠ 0 ∨ r.fr ≠ 0)) ∨ (r.kind ≠ 2 ∧ (r.index ≠ 0 ∨ zItem r.item = false)) ∨ (r.kind ≠ 3 ∧ noSnapS r.sidx r.sterm r.mach = false) then 8
  else if r.kind = 1 then (if okNumber r.term = false ∨ r.fr < -1 ∨ 3 ≤ r.fr then 2 else 0)
  else if r.kind = 2 then (if okNumber r.index = false then 2 else r.item.check)
  else checkSnap r.sidx r.sterm r.mach := by
  unfold checkRc
  rw [noSnapS_eq]
  have e : (zItem r.item = false) = (r.item ≠ zeroItem) := by
    rw [← Bool.not_eq_true, zItem_iff]
  simp only [e]
theorem checkRc_c (r : Rcd) (h1 : r.mach.sto.Small) (h2 : r.mach.clis.length ≤ 1000000) : PCall Tryz.prog G 18 [.agg r.c] (iV (checkRc r)) := by
  rw [checkRc_eq]
  obtain ⟨kind, term, fr, index, ⟨xt, xm, xn, xc, xs, xk, xa, xb, xd, xx⟩, sidx, sterm, ⟨⟨now, es⟩, next, cs⟩⟩ := r
  have hcs := checkSnap_c (G := G) sidx sterm ⟨⟨now, es⟩, next, cs⟩ h1 h2
  have hns := noSnap_c (G := G) sidx sterm ⟨⟨now, es⟩, next, cs⟩
  have n1 := tnumber_c (G := G) term
  have n2 := tnumber_c (G := G) index
  have hci := checkItem_c (G := G) xt xm xn xc xs xk xa xb xd xx
  obtain ⟨Z, hZ⟩ : ∃ Z, zItem ⟨xt, xm, xn, xc, xs, xk, xa, xb, xd, xx⟩ = Z := ⟨_, rfl⟩
  simp only [Item.check, Rcd.c, Mach.c, List.cons_append, List.nil_append] at *
  rw [hZ]
  unfold zItem at hZ
  simp only at hZ
  generalize checkSnap sidx sterm ⟨⟨now, es⟩, next, cs⟩ = V at *
  generalize noSnapS sidx sterm ⟨⟨now, es⟩, next, cs⟩ = S at *
  generalize okNumber term = A at *
  generalize okNumber index = B at *
  generalize checkItem xt xm xn xc xs xk xa xb xd xx = I at *
  by_cases k0 : kind < 1 ∨ 3 < kind
  · rw [if_pos k0]
    by_cases k1 : kind < 1
    · have q1 : decide (kind < 1) = true := decide_eq_true k1
      refine pcallc mixed Tryz.func18 ac_tape_Check ?_
      repeat' (first | (with_reducible first | refine Cn (fun h => ?_) fun h => ?_ | refine And.intro ?_ ?_ | refine wR ?_ | exact wr _ _ | refine wa ?_ | apply awp_join) | (with_reducible refine CallZ.z ?_) | simp -dsimp [go_sem, q1])
      all_goals first | done | (simp_all; done) | (simp_all; omega) | ((repeat' split) <;> simp_all <;> omega) | trace_state
    · have q1 : decide (kind < 1) = false := decide_eq_false k1
      have q2 : decide (3 < kind) = true := decide_eq_true (by omega)
      refine pcallc mixed Tryz.func18 ac_tape_Check ?_
      repeat' (first | (with_reducible first | refine Cn (fun h => ?_) fun h => ?_ | refine And.intro ?_ ?_ | refine wR ?_ | exact wr _ _ | refine wa ?_ | apply awp_join) | (with_reducible refine CallZ.z ?_) | simp -dsimp [go_sem, q1, q2])
      all_goals first | done | (simp_all; done) | (simp_all; omega) | ((repeat' split) <;> simp_all <;> omega) | trace_state
  · rw [if_neg k0]
    have q1 : decide (kind < 1) = false := decide_eq_false (by omega)
    have q2 : decide (3 < kind) = false := decide_eq_false (by omega)
    have hk : kind = 1 ∨ kind = 2 ∨ kind = 3 := by omega
    clear k0
    rcases hk with rfl | rfl | rfl
    · refine pcallc mixed Tryz.func18 ac_tape_Check ?_
      repeat' (first | (with_reducible first | refine Cn (fun h => ?_) fun h => ?_ | refine And.intro ?_ ?_ | refine wR ?_ | exact wr _ _ | refine wa ?_ | apply awp_join | refine q hns ?_ | refine qd hns ?_ | refine qz hns ?_ | refine q n1 ?_ | refine qd n1 ?_ | refine qz n1 ?_) | (with_reducible refine CallZ.z ?_) | simp -dsimp [go_sem, hZ])
      all_goals first | done | (simp_all; done) | (simp_all; omega) | ((repeat' split) <;> simp_all <;> omega) | trace_state
    · refine pcallc mixed Tryz.func18 ac_tape_Check ?_
      repeat' (first | (with_reducible first | refine Cn (fun h => ?_) fun h => ?_ | refine And.intro ?_ ?_ | refine wR ?_ | exact wr _ _ | refine wa ?_ | apply awp_join | refine q hns ?_ | refine qd hns ?_ | refine qz hns ?_ | refine q n2 ?_ | refine qd n2 ?_ | refine qz n2 ?_ | refine q hci ?_ | refine qd hci ?_ | refine qz hci ?_) | (with_reducible refine CallZ.z ?_) | simp -dsimp [go_sem, hZ])
      all_goals first | done | (simp_all; done) | (simp_all; omega) | ((repeat' split) <;> simp_all <;> omega) | trace_state
    · refine pcallc mixed Tryz.func18 ac_tape_Check ?_
      repeat' (first | (with_reducible first | refine Cn (fun h => ?_) fun h => ?_ | refine And.intro ?_ ?_ | refine wR ?_ | exact wr _ _ | refine wa ?_ | apply awp_join | refine q hcs ?_ | refine qd hcs ?_ | refine qz hcs ?_) | (with_reducible refine CallZ.z ?_) | simp -dsimp [go_sem, hZ])
      all_goals first | done | (simp_all; done) | (simp_all; omega) | ((repeat' split) <;> simp_all <;> omega) | trace_state
end Go.Proofs.YtpdcfljbabpakaaGreatDoor
set_option linter.unusedVariables false
set_option linter.unusedSimpArgs false
set_option maxRecDepth 100000
set_option maxHeartbeats 8000000
namespace Go.Proofs.YtpdcfljbabpakaaGreatDoor
open Go Go.RowKit Go.Proofs.AE
variable {G : Nat → AV}
theorem flat_succ {α : Type} {g : α → List UInt8} {xs : List α} {i : Nat} {x : α} (h : xs[i]? = some x) : (xs.take (i + 1)).flatMap g = (xs.take i).flatMap g ++ g x := by
  rw [List.take_add_one, h, Option.toList_some, List.flatMap_append]; simp
theorem flat_take {α : Type} {g : α → List UInt8} {b : Nat} {xs : List α} (h : ∀ a ∈ xs, (g a).length ≤ b) (i : Nat) : ((xs.take i).flatMap g).length ≤ xs.length * b := by
  have h1 := flat_len (xs.take i) (fun a ha => h a (List.mem_of_mem_take ha))
  have h2 : (xs.take i).length * b ≤ xs.length * b := Nat.mul_le_mul_right _ (by rw [List.length_take]; omega)
  omega
theorem strRows_at {l : List ByteArray} {i : Nat} {t : ByteArray} (h : l[i]? = some t) : (strRows l)[i]? = some [.lit (.string t)] := by simp [strRows, h]
theorem strRows_length (l : List ByteArray) : (strRows l).length = l.length := by simp [strRows]
theorem textB_le {t : ByteArray} (h : t.size ≤ 255) : (textB t).length ≤ 256 := by rw [textB_len]; omega
theorem wtexts_c (l : List UInt8) (ts : List ByteArray) (hl : l.length ≤ 700000) (hn : ts.length ≤ 255) (ht : ∀ t ∈ ts, t.size ≤ 255) :
    DetCall Tryz.prog G 53 1 (wHp l) [.one (.ptr 0 0), .one (.v (.sl (strRows ts)))] (.tup []) (wHp (l ++ manyB textB ts)) := by
  have hs : l ++ manyB textB ts = l ++ [smallB ts.length] ++ (ts.take ts.length).flatMap textB := by simp [manyB]
  have hfl := flat_take (g := textB) (b := 256) (xs := ts) fun t h => textB_le (ht t h)
  have hsm := wsmall_c (G := G) l ts.length (by omega)
  rw [hs]
  obtain ⟨l0, hl0⟩ : ∃ l0, l ++ [smallB ts.length] = l0 := ⟨_, rfl⟩
  have hl0n : l0.length ≤ 700001 := by rw [← hl0]; simp; omega
  rw [hl0] at hsm ⊢
  have hlen := strRows_length ts
  refine gcallc mixed Tryz.func53 ac_wire_writer_texts ?_
  unfold wHp
  repeat' (first | (with_reducible first | refine Cn (fun h => ?_) fun h => ?_ | refine And.intro ?_ ?_ | refine wR ?_ | exact wr _ _ | refine wa ?_ | apply awp_join | refine qg hsm ?_ | refine qgd hsm ?_) | (with_reducible refine CallZ.z ?_) | simp -dsimp [go_sem, hlen])
  refine awp_loop (fun i : Nat => ⟨[(0, .one (.ptr 0 0)), (10, .one (.v (.sl (strRows ts)))), (11, iV ts.length), (12, iV i)], G, wHp (l0 ++ (ts.take i).flatMap textB)⟩) (fun i => i ≤ ts.length) (fun i => ts.length - i) 0 (weak_auto ?_) (Nat.zero_le _) ?_
  · simp -dsimp [go_sem]
  · intro i hi
    by_cases hil : i < ts.length
    · obtain ⟨t, hx⟩ : ∃ t, ts[i]? = some t := ⟨_, List.getElem?_eq_getElem hil⟩
      have hr := strRows_at hx
      have htt := ht t (List.mem_of_getElem? hx)
      have hfi := hfl i
      have hw := wtext_c (G := G) (l0 ++ (ts.take i).flatMap textB) t (by simp only [List.length_append, List.length_cons, List.length_nil]; omega) (by omega)
      have e1 : l0 ++ (ts.take i).flatMap textB ++ textB t = l0 ++ (ts.take (i + 1)).flatMap textB := by rw [flat_succ hx, List.append_assoc]
      rw [e1] at hw
      have q1 : decide (i < ts.length) = true := by simpa using hil
      have w1 : IntKind.i64.wrap ((i : Int) + 1) = (i : Int) + 1 := IntWalk.i64_in _ (by omega)
      generalize l0 ++ (ts.take i).flatMap textB = a at *
      obtain ⟨b, hb⟩ : ∃ b, l0 ++ (ts.take (i + 1)).flatMap textB = b := ⟨_, rfl⟩
      rw [hb] at hw
      unfold wHp at hw ⊢
      repeat' (first | (with_reducible first | refine Cn (fun h => ?_) fun h => ?_ | refine And.intro ?_ ?_ | refine wR ?_ | exact wr _ _ | refine wa ?_ | apply awp_join | refine qg hw ?_ | refine qgd hw ?_) | (with_reducible refine CallZ.z ?_) | simp -dsimp [go_sem, hr, q1, w1])
      all_goals first
        | omega
        | (refine Again.auto (i + 1) ?_ hil ?_
           · simp -dsimp [go_sem, hb]
           · show ts.length - (i + 1) < ts.length - i; omega)
        | trace_state
    · have q1 : decide (i < ts.length) = false := by simpa using hil
      have hie : i = ts.length := by omega
      rw [hie]
      generalize l0 ++ (ts.take ts.length).flatMap textB = a
      rw [hie] at q1
      unfold wHp
      repeat' (first | (with_reducible first | refine Cn (fun h => ?_) fun h => ?_ | refine And.intro ?_ ?_ | refine wR ?_ | exact wr _ _ | refine wa ?_ | apply awp_join) | (with_reducible refine CallZ.z ?_) | simp -dsimp [go_sem, q1])
      all_goals trace_state
theorem prB_le {p : Pr} (h1 : p.1.size ≤ 255) (h2 : p.2.size ≤ 255) : (prB p).length ≤ 512 := by unfold prB; rw [List.length_append, textB_len, textB_len]; omega
theorem scB_le {s : Sc} (h1 : s.1.size ≤ 255) : (scB s).length ≤ 264 := by unfold scB; rw [List.length_append, textB_len, numB_len]; omega
theorem many_le {α : Type} {g : α → List UInt8} {b : Nat} {l : List α} (hl : l.length ≤ 255) (h : ∀ a ∈ l, (g a).length ≤ b) : (manyB g l).length ≤ 1 + 255 * b := by
  have := many_len h
  have h2 : l.length * b ≤ 255 * b := Nat.mul_le_mul_right _ hl
  omega
theorem valB_split (l : List UInt8) (v : Val) : l ++ valB v = l ++ [smallB v.kind] ++ textB v.text ++ numB v.count ++ [smallB v.pairs.length] ++ v.pairs.flatMap prB ++ manyB textB v.items ++ [smallB v.scores.length] ++ v.scores.flatMap scB := by
  unfold valB manyB; simp
theorem wvalue_c (l : List UInt8) (v : Val) (hl : l.length ≤ 200000) (hv : SizV v) :
    DetCall Tryz.prog G 52 1 (wHp l) [.one (.ptr 0 0), .agg v.c] (.tup []) (wHp (l ++ valB v)) := by
  have hpl := flat_take (g := prB) (b := 512) (xs := v.pairs) fun p h => prB_le (hv.pairs.2 p h).1 (hv.pairs.2 p h).2
  have hsl := flat_take (g := scB) (b := 264) (xs := v.scores) fun p h => scB_le (hv.scores.2 p h).1
  have hil := many_le (g := textB) (b := 256) hv.items.1 fun t h => textB_le (hv.items.2 t h)
  have ht := textB_le hv.text
  have p1 := hv.pairs; have p2 := hv.items; have p3 := hv.scores; have p4 := hv.count; have p5 := hv.text
  rw [valB_split]
  obtain ⟨k, tx, n, ps, is, ss⟩ := v
  simp only [Val.c] at *
  have a1 := wsmall_c (G := G) l k (by omega)
  obtain ⟨x1, h1⟩ : ∃ x, l ++ [smallB k] = x := ⟨_, rfl⟩
  have h1n : x1.length ≤ 200001 := by rw [← h1]; simp; omega
  rw [h1] at a1 ⊢
  have a2 := wtext_c (G := G) x1 tx (by omega) (by omega)
  obtain ⟨x2, h2⟩ : ∃ x, x1 ++ textB tx = x := ⟨_, rfl⟩
  have h2n : x2.length ≤ 200257 := by rw [← h2, List.length_append]; omega
  rw [h2] at a2 ⊢
  have a3 := wnumber_c (G := G) x2 n (by omega) p4
  obtain ⟨x3, h3⟩ : ∃ x, x2 ++ numB n = x := ⟨_, rfl⟩
  have h3n : x3.length ≤ 200265 := by rw [← h3, List.length_append, numB_len]; omega
  rw [h3] at a3 ⊢
  have a4 := wsmall_c (G := G) x3 ps.length (by omega)
  obtain ⟨l0, hl0⟩ : ∃ l0, x3 ++ [smallB ps.length] = l0 := ⟨_, rfl⟩
  have hl0n : l0.length ≤ 200300 := by rw [← hl0]; simp; omega
  rw [hl0] at a4 ⊢
  have hpn : (pR ps).length = ps.length := by simp
  have hsn : (sR ss).length = ss.length := by simp
  refine gcallc mixed Tryz.func52 ac_wire_writer_value ?_
  unfold wHp at *
  repeat' (first | (with_reducible first | refine Cn (fun h => ?_) fun h => ?_ | refine And.intro ?_ ?_ | refine wR ?_ | exact wr _ _ | refine wa ?_ | apply awp_join | refine qg a1 ?_ | refine qgd a1 ?_ | refine qg a2 ?_ | refine qgd a2 ?_ | refine qg a3 ?_ | refine qgd a3 ?_ | refine qg a4 ?_ | refine qgd a4 ?_) | (with_reducible refine CallZ.z ?_) | simp -dsimp [go_sem, hpn])
  refine awp_loop (fun i : Nat => ⟨[(0, .one (.ptr 0 0)), (3, .one (.ptr 2 0)), (26, .one (.v (.sl (pR ps)))), (27, iV ps.length), (28, iV i)], G, wHp (l0 ++ (ps.take i).flatMap prB) ++ [some (.box 117 [iC k, sC tx, iC n, .v (.sl (pR ps)), .v (.sl (strRows is)), .v (.sl (sR ss))])]⟩) (fun i => i ≤ ps.length) (fun i => ps.length - i) 0 (weak_auto ?_) (Nat.zero_le _) ?_
  · simp -dsimp [go_sem]
  · intro i hi
    by_cases hilt : i < ps.length
    · obtain ⟨⟨f, t⟩, hx⟩ : ∃ p, ps[i]? = some p := ⟨_, List.getElem?_eq_getElem hilt⟩
      have hr : (pR ps)[i]? = some [.lit (.string f), .lit (.string t)] := by simp [hx, row_api_Pair]
      have htt := p1.2 _ (List.mem_of_getElem? hx)
      have hfi := hpl i
      simp only at htt
      have b1 := wtext_c (G := G) (l0 ++ (ps.take i).flatMap prB) f (by simp only [List.length_append]; omega) (by omega)
      have b2 := wtext_c (G := G) (l0 ++ (ps.take i).flatMap prB ++ textB f) t (by simp only [List.length_append, textB_len]; omega) (by omega)
      have e1 : l0 ++ (ps.take i).flatMap prB ++ textB f ++ textB t = l0 ++ (ps.take (i + 1)).flatMap prB := by rw [flat_succ hx]; simp [prB]
      rw [e1] at b2
      have q1 : decide (i < ps.length) = true := by simpa using hilt
      have w1 : IntKind.i64.wrap ((i : Int) + 1) = (i : Int) + 1 := IntWalk.i64_in _ (by omega)
      generalize l0 ++ (ps.take i).flatMap prB = a at *
      obtain ⟨b, hb⟩ : ∃ b, l0 ++ (ps.take (i + 1)).flatMap prB = b := ⟨_, rfl⟩
      rw [hb] at b2
      unfold wHp at b1 b2 ⊢
      repeat' (first | (with_reducible first | refine Cn (fun h => ?_) fun h => ?_ | refine And.intro ?_ ?_ | refine wR ?_ | exact wr _ _ | refine wa ?_ | apply awp_join | refine qg b1 ?_ | refine qgd b1 ?_ | refine qg b2 ?_ | refine qgd b2 ?_) | (with_reducible refine CallZ.z ?_) | simp -dsimp [go_sem, hr, q1, w1])
      all_goals first
        | omega
        | (refine Again.auto (i + 1) ?_ hilt ?_
           · simp -dsimp [go_sem, hb]
           · show ps.length - (i + 1) < ps.length - i; omega)
        | trace_state
    · have hie : i = ps.length := by omega
      subst hie
      rw [List.take_length]
      have hpl0 := hpl ps.length
      rw [List.take_length] at hpl0
      obtain ⟨y1, g1⟩ : ∃ x, l0 ++ ps.flatMap prB = x := ⟨_, rfl⟩
      have g1n : y1.length ≤ 340000 := by rw [← g1, List.length_append]; omega
      rw [g1]
      have c1 := wtexts_c (G := G) y1 is (by omega) p2.1 p2.2
      obtain ⟨y2, g2⟩ : ∃ x, y1 ++ manyB textB is = x := ⟨_, rfl⟩
      have g2n : y2.length ≤ 410000 := by rw [← g2, List.length_append]; omega
      rw [g2] at c1 ⊢
      have c2 := wsmall_c (G := G) y2 ss.length (by omega)
      obtain ⟨l1, hl1⟩ : ∃ l1, y2 ++ [smallB ss.length] = l1 := ⟨_, rfl⟩
      have hl1n : l1.length ≤ 500000 := by rw [← hl1]; simp; omega
      rw [hl1] at c2 ⊢
      unfold wHp at c1 c2 ⊢
      repeat' (first | (with_reducible first | refine Cn (fun h => ?_) fun h => ?_ | refine And.intro ?_ ?_ | refine wR ?_ | exact wr _ _ | refine wa ?_ | apply awp_join | refine qg c1 ?_ | refine qgd c1 ?_ | refine qg c2 ?_ | refine qgd c2 ?_) | (with_reducible refine CallZ.z ?_) | simp -dsimp [go_sem, hsn])
      refine awp_loop (fun i : Nat => ⟨[(0, .one (.ptr 0 0)), (51, .one (.v (.sl (sR ss)))), (52, iV ss.length), (53, iV i)], G, wHp (l1 ++ (ss.take i).flatMap scB)⟩) (fun i => i ≤ ss.length) (fun i => ss.length - i) 0 (weak_auto ?_) (Nat.zero_le _) ?_
      · simp -dsimp [go_sem]
      · intro i hi
        by_cases hilt : i < ss.length
        · obtain ⟨⟨f, t⟩, hx⟩ : ∃ p, ss[i]? = some p := ⟨_, List.getElem?_eq_getElem hilt⟩
          have hr : (sR ss)[i]? = some [.lit (.string f), .lit (.int .i64 t)] := by simp [hx, row_api_Score]
          have htt := p3.2 _ (List.mem_of_getElem? hx)
          have hfi := hsl i
          simp only at htt
          have b1 := wtext_c (G := G) (l1 ++ (ss.take i).flatMap scB) f (by simp only [List.length_append]; omega) (by omega)
          have b2 := wnumber_c (G := G) (l1 ++ (ss.take i).flatMap scB ++ textB f) t (by simp only [List.length_append, textB_len]; omega) htt.2
          have e1 : l1 ++ (ss.take i).flatMap scB ++ textB f ++ numB t = l1 ++ (ss.take (i + 1)).flatMap scB := by rw [flat_succ hx]; simp [scB]
          rw [e1] at b2
          have q1 : decide (i < ss.length) = true := by simpa using hilt
          have w1 : IntKind.i64.wrap ((i : Int) + 1) = (i : Int) + 1 := IntWalk.i64_in _ (by omega)
          generalize l1 ++ (ss.take i).flatMap scB = a at *
          obtain ⟨b, hb⟩ : ∃ b, l1 ++ (ss.take (i + 1)).flatMap scB = b := ⟨_, rfl⟩
          rw [hb] at b2
          unfold wHp at b1 b2 ⊢
          repeat' (first | (with_reducible first | refine Cn (fun h => ?_) fun h => ?_ | refine And.intro ?_ ?_ | refine wR ?_ | exact wr _ _ | refine wa ?_ | apply awp_join | refine qg b1 ?_ | refine qgd b1 ?_ | refine qg b2 ?_ | refine qgd b2 ?_) | (with_reducible refine CallZ.z ?_) | simp -dsimp [go_sem, hr, q1, w1])
          all_goals first
            | omega
            | (refine Again.auto (i + 1) ?_ hilt ?_
               · simp -dsimp [go_sem, hb]
               · show ss.length - (i + 1) < ss.length - i; omega)
            | trace_state
        · have hie : i = ss.length := by omega
          subst hie
          rw [List.take_length]
          generalize l1 ++ ss.flatMap scB = a
          unfold wHp
          repeat' (first | (with_reducible first | refine Cn (fun h => ?_) fun h => ?_ | refine And.intro ?_ ?_ | refine wR ?_ | exact wr _ _ | refine wa ?_ | apply awp_join) | (with_reducible refine CallZ.z ?_) | simp -dsimp [go_sem])
          all_goals trace_state
end Go.Proofs.YtpdcfljbabpakaaGreatDoor
