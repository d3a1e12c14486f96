/- Texts joined. -/
import Derived.Test.YtpdcfljbabpakaaGreatDoorSk8
import Derived.Test.YtpdcfljbabpakaaGreatDoorSk5
set_option linter.unusedVariables false
set_option linter.unusedSimpArgs false
set_option maxRecDepth 100000
set_option maxHeartbeats 8000000
namespace Go.Proofs.YtpdcfljbabpakaaGreatDoor
open Go Go.RowKit Go.Proofs.AE
structure Rd where
  rest : List UInt8
  short : Bool
def takeR (r : Rd) (n : Nat) : List UInt8 × Rd := if r.short = true ∨ r.rest.length < n then ([], ⟨r.rest, true⟩) else (r.rest.take n, ⟨r.rest.drop n, false⟩)
def uOf (l : List UInt8) : Nat := l.foldl (fun u c => (u * 256 + c.toNat) % 18446744073709551616) 0
def numOf (l : List UInt8) : Int := IntKind.i64.wrap ((uOf l : Int) - 4611686018427387904)
def numR (r : Rd) : Int × Rd := (numOf (takeR r 8).1, (takeR r 8).2)
def smallR (r : Rd) : Nat × Rd := ((match (takeR r 1).1 with | c :: _ => c.toNat | [] => 0), (takeR r 1).2)
def txtR (r : Rd) : ByteArray × Rd := (⟨(takeR (smallR r).2 (smallR r).1).1.toArray⟩, (takeR (smallR r).2 (smallR r).1).2)
theorem takeR_app (b rest : List UInt8) {n : Nat} (h : b.length = n) : takeR ⟨b ++ rest, false⟩ n = (b, ⟨rest, false⟩) := by
  subst h
  unfold takeR
  rw [if_neg (by simp), List.take_left' rfl, List.drop_left' rfl]
theorem uOf_numB {n : Int} (h : inNum n) : uOf (numB n) = numU n := by
  have hu : numU n < 18446744073709551616 := by unfold inNum at h; unfold numU; omega
  unfold uOf numB byteAt'
  generalize numU n = u at hu
  simp only [List.foldl_cons, List.foldl_nil, UInt8.toNat_ofNat']
  omega
theorem numOf_numB {n : Int} (h : inNum n) : numOf (numB n) = n := by
  unfold numOf
  rw [uOf_numB h]
  unfold inNum at h
  unfold numU
  rw [IntWalk.i64_in _ (by omega)]
  omega
theorem numR_app {n : Int} (h : inNum n) (rest : List UInt8) : numR ⟨numB n ++ rest, false⟩ = (n, ⟨rest, false⟩) := by
  unfold numR
  rw [takeR_app (numB n) rest (n := 8) rfl, numOf_numB h]
theorem smallR_app (c : UInt8) (rest : List UInt8) : smallR ⟨c :: rest, false⟩ = (c.toNat, ⟨rest, false⟩) := by
  have := takeR_app [c] rest (n := 1) rfl
  unfold smallR
  rw [show c :: rest = [c] ++ rest from rfl, this]
theorem smallB_toNat {n : Int} (h : 0 ≤ n) (h2 : n < 256) : (smallB n).toNat = n.toNat := by
  unfold smallB
  rw [UInt8.toNat_ofNat']; omega
theorem txtR_app {t : ByteArray} (h : t.size ≤ 255) (rest : List UInt8) : txtR ⟨textB t ++ rest, false⟩ = (t, ⟨rest, false⟩) := by
  have h1 : smallR ⟨textB t ++ rest, false⟩ = (t.size, ⟨t.data.toList ++ rest, false⟩) := by
    unfold textB
    rw [List.cons_append, smallR_app, smallB_toNat (by omega) (by omega)]
    simp
  unfold txtR
  rw [h1, takeR_app _ _ (by rw [Array.length_toList]; rfl)]
theorem uOf_lt (l : List UInt8) : uOf l < 18446744073709551616 := by
  unfold uOf
  rcases l.eq_nil_or_concat with rfl | ⟨a, b, rfl⟩
  · simp
  · rw [List.concat_eq_append, List.foldl_append]
    simp only [List.foldl_cons, List.foldl_nil]
    omega
theorem uOf_snoc (l : List UInt8) (c : UInt8) : uOf (l ++ [c]) = (uOf l * 256 + c.toNat) % 18446744073709551616 := by
  unfold uOf
  rw [List.foldl_append]
  rfl
theorem takeR_len (r : Rd) (n : Nat) : (takeR r n).1.length ≤ n := by
  unfold takeR
  split
  · simp
  · simp; omega
theorem takeR_short (l : List UInt8) (n : Nat) : (takeR ⟨l, true⟩ n).2.short = true := by simp [takeR]
theorem takeR_ext {l1 : List UInt8} (l2 : List UInt8) {n : Nat} (h : (takeR ⟨l1, false⟩ n).2.short = false) : takeR ⟨l1 ++ l2, false⟩ n = ((takeR ⟨l1, false⟩ n).1, ⟨(takeR ⟨l1, false⟩ n).2.rest ++ l2, false⟩) := by
  unfold takeR at h ⊢
  split at h
  · cases h
  · rename_i h1
    have h2 : ¬ l1.length < n := by simpa using h1
    rw [if_neg (by simp; omega), if_neg h1]
    simp only
    rw [List.take_append_of_le_length (by omega), List.drop_append_of_le_length (by omega)]
structure Reads {α : Type} (f : Rd → α × Rd) : Prop where
  stuck : ∀ l, (f ⟨l, true⟩).2.short = true
  ext : ∀ l1 l2, (f ⟨l1, false⟩).2.short = false → f ⟨l1 ++ l2, false⟩ = ((f ⟨l1, false⟩).1, ⟨(f ⟨l1, false⟩).2.rest ++ l2, false⟩)
theorem Reads.take (n : Nat) : Reads (fun r => takeR r n) := ⟨fun l => takeR_short l n, fun l1 l2 h => takeR_ext l2 h⟩
theorem Reads.map {α β : Type} {f : Rd → α × Rd} (h : Reads f) (g : α → β) : Reads (fun r => (g (f r).1, (f r).2)) :=
  ⟨fun l => h.stuck l, fun l1 l2 hs => by
    have := h.ext l1 l2 hs
    simp only [this]⟩
theorem Reads.bind {α β γ : Type} {f : Rd → α × Rd} {g : α → Rd → β × Rd} (c : α → β → γ) (h : Reads f) (hg : ∀ a, Reads (g a)) : Reads (fun r => (c (f r).1 (g (f r).1 (f r).2).1, (g (f r).1 (f r).2).2)) := by
  refine ⟨fun l => ?_, fun l1 l2 hs => ?_⟩
  · have h1 := h.stuck l
    generalize f ⟨l, true⟩ = p at *
    obtain ⟨a, r, s⟩ := p
    simp only at h1 ⊢
    subst h1
    exact (hg a).stuck r
  · simp only at hs ⊢
    have h1 : (f ⟨l1, false⟩).2.short = false := by
      cases hq : (f ⟨l1, false⟩).2.short with
      | false => rfl
      | true =>
        generalize f ⟨l1, false⟩ = p at *
        obtain ⟨a, r, s⟩ := p
        simp only at hq hs
        subst hq
        rw [(hg a).stuck r] at hs; cases hs
    rw [h.ext l1 l2 h1]
    generalize f ⟨l1, false⟩ = p at *
    obtain ⟨a, r, s⟩ := p
    simp only at h1 hs ⊢
    subst h1
    rw [(hg a).ext r l2 hs]
theorem reads_num : Reads numR := (Reads.take 8).map numOf
theorem reads_small : Reads smallR := (Reads.take 1).map fun l => match l with | c :: _ => c.toNat | [] => 0
theorem reads_text : Reads txtR := Reads.bind (f := smallR) (g := fun n r => takeR r n) (fun _ b => (⟨b.toArray⟩ : ByteArray)) reads_small fun n => Reads.take n
theorem numB_numOf {b : List UInt8} (hb : b.length = 8) (h : inNum (numOf b)) : numB (numOf b) = b := by
  have hu := uOf_lt b
  have e : ((uOf b : Nat) : Int) - 4611686018427387904 = numOf b := by
    unfold numOf at h ⊢
    unfold inNum at h
    have hw : IntKind.i64.wrap ((uOf b : Int) - 4611686018427387904) = (uOf b : Int) - 4611686018427387904 ∨ IntKind.i64.wrap ((uOf b : Int) - 4611686018427387904) = (uOf b : Int) - 4611686018427387904 - 18446744073709551616 := by
      by_cases hlt : (uOf b : Int) - 4611686018427387904 ≤ 9223372036854775807
      · left; exact IntWalk.i64_in _ (by omega)
      · right
        simp [IntKind.wrap, IntKind.bits, IntKind.signed]
        omega
    omega
  have hn : numU (numOf b) = uOf b := by unfold numU; omega
  unfold numB
  rw [hn]
  match b, hb with
  | [b7, b6, b5, b4, b3, b2, b1, b0], _ =>
    have l7 := b7.toNat_lt; have l6 := b6.toNat_lt; have l5 := b5.toNat_lt; have l4 := b4.toNat_lt
    have l3 := b3.toNat_lt; have l2 := b2.toNat_lt; have l1 := b1.toNat_lt; have l0 := b0.toNat_lt
    have hU : uOf [b7, b6, b5, b4, b3, b2, b1, b0] = ((((((b7.toNat * 256 + b6.toNat) * 256 + b5.toNat) * 256 + b4.toNat) * 256 + b3.toNat) * 256 + b2.toNat) * 256 + b1.toNat) * 256 + b0.toNat := by
      simp only [uOf, List.foldl_cons, List.foldl_nil]
      omega
    rw [hU]
    have key : ∀ (u s : Nat) (c : UInt8), u / 2 ^ s % 256 = c.toNat → byteAt' u s = c := by
      intro u s c h
      apply UInt8.toNat_inj.1
      unfold byteAt'
      rw [UInt8.toNat_ofNat']; omega
    rw [key _ 56 b7 (by omega), key _ 48 b6 (by omega), key _ 40 b5 (by omega), key _ 32 b4 (by omega), key _ 24 b3 (by omega), key _ 16 b2 (by omega), key _ 8 b1 (by omega), key _ 0 b0 (by omega)]
theorem take_eats {l : List UInt8} {n : Nat} (h : (takeR ⟨l, false⟩ n).2.short = false) : (takeR ⟨l, false⟩ n).1.length = n ∧ l = (takeR ⟨l, false⟩ n).1 ++ (takeR ⟨l, false⟩ n).2.rest := by
  unfold takeR at h ⊢
  split at h
  · cases h
  · rename_i h1
    rw [if_neg h1]
    have h2 : ¬ l.length < n := by simpa using h1
    exact ⟨by simp; omega, (List.take_append_drop n l).symm⟩
theorem num_eats {l : List UInt8} (h : (numR ⟨l, false⟩).2.short = false) (hn : inNum (numR ⟨l, false⟩).1) : l = numB (numR ⟨l, false⟩).1 ++ (numR ⟨l, false⟩).2.rest := by
  unfold numR at h hn ⊢
  obtain ⟨h1, h2⟩ := take_eats h
  rw [numB_numOf h1 hn]
  exact h2
theorem small_eats {l : List UInt8} (h : (smallR ⟨l, false⟩).2.short = false) : l = smallB (smallR ⟨l, false⟩).1 :: (smallR ⟨l, false⟩).2.rest ∧ (smallR ⟨l, false⟩).1 < 256 := by
  unfold smallR at h ⊢
  obtain ⟨h1, h2⟩ := take_eats h
  generalize takeR ⟨l, false⟩ 1 = p at *
  obtain ⟨b, r⟩ := p
  simp only at h1 h2 ⊢
  match b, h1 with
  | [c], _ =>
    have := c.toNat_lt
    simp only
    refine ⟨?_, this⟩
    have hc : smallB (c.toNat : Int) = c := by
      apply UInt8.toNat_inj.1
      rw [smallB_toNat (by omega) (by omega)]
      simp
    rw [hc]; exact h2
theorem text_eats {l : List UInt8} (h : (txtR ⟨l, false⟩).2.short = false) : l = textB (txtR ⟨l, false⟩).1 ++ (txtR ⟨l, false⟩).2.rest := by
  unfold txtR at h ⊢
  have hs : (smallR ⟨l, false⟩).2.short = false := by
    cases hq : (smallR ⟨l, false⟩).2.short with
    | false => rfl
    | true =>
      generalize smallR ⟨l, false⟩ = p at *
      obtain ⟨a, r, s⟩ := p
      simp only at hq h
      subst hq
      rw [takeR_short] at h; cases h
  obtain ⟨h1, h2⟩ := small_eats hs
  generalize smallR ⟨l, false⟩ = p at *
  obtain ⟨n, r, s⟩ := p
  simp only at hs h h1 h2 ⊢
  subst hs
  obtain ⟨h3, h4⟩ := take_eats h
  unfold textB
  have h5 : ((⟨(takeR ⟨r, false⟩ n).1.toArray⟩ : ByteArray).size : Int) = n := by
    show (((takeR ⟨r, false⟩ n).1.toArray.size : Nat) : Int) = n
    simp [h3]
  rw [h5, h1]
  simp only [List.cons_append]
  congr 1
theorem num_eats' {r : Rd} (h : (numR r).2.short = false) (hn : inNum (numR r).1) : r.short = false ∧ r.rest = numB (numR r).1 ++ (numR r).2.rest := by
  obtain ⟨l, s⟩ := r
  cases s with
  | true => rw [reads_num.stuck l] at h; cases h
  | false => exact ⟨rfl, num_eats h hn⟩
theorem small_eats' {r : Rd} (h : (smallR r).2.short = false) : r.short = false ∧ r.rest = smallB (smallR r).1 :: (smallR r).2.rest ∧ (smallR r).1 < 256 := by
  obtain ⟨l, s⟩ := r
  cases s with
  | true => rw [reads_small.stuck l] at h; cases h
  | false => exact ⟨rfl, small_eats h⟩
theorem text_eats' {r : Rd} (h : (txtR r).2.short = false) : r.short = false ∧ r.rest = textB (txtR r).1 ++ (txtR r).2.rest := by
  obtain ⟨l, s⟩ := r
  cases s with
  | true => rw [reads_text.stuck l] at h; cases h
  | false => exact ⟨rfl, text_eats h⟩
end Go.Proofs.YtpdcfljbabpakaaGreatDoor
set_option linter.unusedVariables false
set_option linter.unusedSimpArgs false
set_option maxRecDepth 100000
set_option maxHeartbeats 8000000
namespace Go.Proofs.YtpdcfljbabpakaaGreatDoor
open Go Go.RowKit Go.Proofs.AE
structure Codec {α : Type} (f : Rd → α × Rd) (g : α → List UInt8) (ok : α → Prop) : Prop where
  back : ∀ a rest, ok a → f ⟨g a ++ rest, false⟩ = (a, ⟨rest, false⟩)
  reads : Reads f
  eats : ∀ r, (f r).2.short = false → ok (f r).1 → r.short = false ∧ r.rest = g (f r).1 ++ (f r).2.rest
theorem Codec.num : Codec numR numB inNum := ⟨fun n rest h => numR_app h rest, reads_num, fun r h hn => num_eats' h hn⟩
theorem Codec.text : Codec txtR textB (fun t => t.size ≤ 255) := ⟨fun t rest h => txtR_app h rest, reads_text, fun r h _ => text_eats' h⟩
def smR (r : Rd) : Int × Rd := ((smallR r).1, (smallR r).2)
theorem Codec.small : Codec smR (fun n => [smallB n]) (fun n => 0 ≤ n ∧ n < 256) := by
  refine ⟨fun n rest h => ?_, reads_small.map fun n : Nat => (n : Int), fun r h hn => ?_⟩
  · have := smallR_app (smallB n) rest
    unfold smR
    rw [show [smallB n] ++ rest = smallB n :: rest from rfl, this, smallB_toNat h.1 h.2]
    simp only [Prod.mk.injEq, and_true]
    omega
  · obtain ⟨h1, h2, _⟩ := small_eats' (r := r) h
    exact ⟨h1, h2⟩
theorem Codec.seq {α β : Type} {f : Rd → α × Rd} {g : α → List UInt8} {ok : α → Prop} {f' : Rd → β × Rd} {g' : β → List UInt8} {ok' : β → Prop} (A : Codec f g ok) (B : Codec f' g' ok') :
    Codec (fun r => (((f r).1, (f' (f r).2).1), (f' (f r).2).2)) (fun p => g p.1 ++ g' p.2) (fun p => ok p.1 ∧ ok' p.2) := by
  refine ⟨fun p rest h => ?_, Reads.bind (g := fun _ => f') Prod.mk A.reads fun _ => B.reads, fun r h ho => ?_⟩
  · simp only [List.append_assoc, A.back p.1 _ h.1, B.back p.2 _ h.2]
  · simp only at h ho ⊢
    obtain ⟨h1, h2⟩ := B.eats (f r).2 h ho.2
    obtain ⟨h3, h4⟩ := A.eats r h1 ho.1
    exact ⟨h3, by rw [h4, h2, List.append_assoc]⟩
theorem Codec.iso {α β : Type} {f : Rd → α × Rd} {g : α → List UInt8} {ok : α → Prop} (A : Codec f g ok) (to : α → β) (of : β → α) (h1 : ∀ b, to (of b) = b) (h2 : ∀ a, of (to a) = a) :
    Codec (fun r => (to (f r).1, (f r).2)) (fun b => g (of b)) (fun b => ok (of b)) := by
  refine ⟨fun b rest h => ?_, A.reads.map to, fun r h ho => ?_⟩
  · simp only [A.back (of b) rest h, h1]
  · simp only [h2] at h ho ⊢
    exact A.eats r h ho
def eachN {α : Type} (f : Rd → α × Rd) : Nat → Rd → List α × Rd
  | 0, r => ([], r)
  | n + 1, r => if r.short = true then ([], r) else ((f r).1 :: (eachN f n (f r).2).1, (eachN f n (f r).2).2)
def eachR {α : Type} (f : Rd → α × Rd) (r : Rd) : List α × Rd := eachN f (smallR r).1 (smallR r).2
def manyB {α : Type} (g : α → List UInt8) (l : List α) : List UInt8 := smallB l.length :: l.flatMap g
theorem eachN_back {α : Type} {f : Rd → α × Rd} {g : α → List UInt8} {ok : α → Prop} (A : Codec f g ok) : ∀ (l : List α) (rest : List UInt8), (∀ a ∈ l, ok a) → eachN f l.length ⟨l.flatMap g ++ rest, false⟩ = (l, ⟨rest, false⟩)
  | [], rest, _ => rfl
  | a :: l, rest, h => by
    have ih := eachN_back A l rest fun b hb => h b (List.mem_cons_of_mem _ hb)
    have ha := A.back a (l.flatMap g ++ rest) (h a (List.mem_cons_self ..))
    simp only [List.length_cons, eachN, List.flatMap_cons, List.append_assoc, Bool.false_eq_true, if_false, ha, ih]
theorem eachN_stuck {α : Type} {f : Rd → α × Rd} : ∀ (n : Nat) (l : List UInt8), (eachN f n ⟨l, true⟩).2.short = true
  | 0, _ => rfl
  | n + 1, l => by simp [eachN]
theorem eachN_reads {α : Type} {f : Rd → α × Rd} (A : Reads f) : ∀ n, Reads (eachN f n)
  | 0 => ⟨fun l => rfl, fun l1 l2 _ => rfl⟩
  | n + 1 => by
    have ih := eachN_reads A n
    have hb := Reads.bind (f := f) (g := fun _ => eachN f n) (fun a l => a :: l) A fun _ => ih
    refine ⟨fun l => eachN_stuck (n + 1) l, fun l1 l2 h => ?_⟩
    simp only [eachN, Bool.false_eq_true, if_false] at h ⊢
    exact hb.ext l1 l2 h
theorem eachN_eats {α : Type} {f : Rd → α × Rd} {g : α → List UInt8} {ok : α → Prop} (A : Codec f g ok) : ∀ (n : Nat) (r : Rd), (eachN f n r).2.short = false → (∀ a ∈ (eachN f n r).1, ok a) → r.short = false ∧ (eachN f n r).1.length = n ∧ r.rest = (eachN f n r).1.flatMap g ++ (eachN f n r).2.rest
  | 0, r, h, _ => ⟨h, rfl, rfl⟩
  | n + 1, r, h, ho => by
    unfold eachN at h ho ⊢
    by_cases hs : r.short = true
    · rw [if_pos hs] at h; rw [hs] at h; cases h
    · rw [if_neg hs] at h ho ⊢
      simp only [List.mem_cons] at h ho ⊢
      obtain ⟨i1, i2, i3⟩ := eachN_eats A n (f r).2 h fun a ha => ho a (.inr ha)
      obtain ⟨j1, j2⟩ := A.eats r i1 (ho _ (.inl rfl))
      exact ⟨j1, by simp [i2], by rw [j2, i3]; simp⟩
theorem Codec.many {α : Type} {f : Rd → α × Rd} {g : α → List UInt8} {ok : α → Prop} (A : Codec f g ok) : Codec (eachR f) (manyB g) (fun l => l.length ≤ 255 ∧ ∀ a ∈ l, ok a) := by
  refine ⟨fun l rest h => ?_, ?_, fun r h ho => ?_⟩
  · unfold eachR manyB
    rw [List.cons_append, smallR_app, smallB_toNat (by omega) (by omega)]
    simp only [Int.toNat_natCast]
    exact eachN_back A l rest h.2
  · exact Reads.bind (f := smallR) (g := fun n => eachN f n) (fun _ l => l) reads_small fun n => eachN_reads A.reads n
  · unfold eachR at h ho ⊢
    obtain ⟨h1, h2, h3⟩ := eachN_eats A _ _ h ho.2
    obtain ⟨h4, h5, _⟩ := small_eats' (r := r) h1
    refine ⟨h4, ?_⟩
    unfold manyB
    rw [h5, h3, h2]
    rfl
def prR (r : Rd) : Pr × Rd := (((txtR r).1, (txtR (txtR r).2).1), (txtR (txtR r).2).2)
def prB (p : Pr) : List UInt8 := textB p.1 ++ textB p.2
theorem Codec.pr : Codec prR prB (fun p => p.1.size ≤ 255 ∧ p.2.size ≤ 255) := Codec.seq Codec.text Codec.text
def scR (r : Rd) : Sc × Rd := (((txtR r).1, (numR (txtR r).2).1), (numR (txtR r).2).2)
def scB (s : Sc) : List UInt8 := textB s.1 ++ numB s.2
theorem Codec.sc : Codec scR scB (fun s => s.1.size ≤ 255 ∧ inNum s.2) := Codec.seq Codec.text Codec.num
abbrev ValT : Type := Int × ByteArray × Int × List Pr × List ByteArray × List Sc
def valT (v : Val) : ValT := (v.kind, v.text, v.count, v.pairs, v.items, v.scores)
def tVal (p : ValT) : Val := ⟨p.1, p.2.1, p.2.2.1, p.2.2.2.1, p.2.2.2.2.1, p.2.2.2.2.2⟩
def sqR {α β : Type} (f : Rd → α × Rd) (g : Rd → β × Rd) (r : Rd) : (α × β) × Rd := (((f r).1, (g (f r).2).1), (g (f r).2).2)
def mapR {α β : Type} (t : α → β) (f : Rd → α × Rd) (r : Rd) : β × Rd := (t (f r).1, (f r).2)
def valR : Rd → Val × Rd := mapR tVal (sqR smR (sqR txtR (sqR numR (sqR (eachR prR) (sqR (eachR txtR) (eachR scR))))))
def valB (v : Val) : List UInt8 := [smallB v.kind] ++ (textB v.text ++ (numB v.count ++ (manyB prB v.pairs ++ (manyB textB v.items ++ manyB scB v.scores))))
structure SizV (v : Val) : Prop where
  kind : 0 ≤ v.kind ∧ v.kind < 256
  text : v.text.size ≤ 255
  count : inNum v.count
  pairs : v.pairs.length ≤ 255 ∧ ∀ p ∈ v.pairs, p.1.size ≤ 255 ∧ p.2.size ≤ 255
  items : v.items.length ≤ 255 ∧ ∀ t ∈ v.items, t.size ≤ 255
  scores : v.scores.length ≤ 255 ∧ ∀ s ∈ v.scores, s.1.size ≤ 255 ∧ inNum s.2
theorem Codec.ok {α : Type} {f : Rd → α × Rd} {g : α → List UInt8} {ok ok' : α → Prop} (A : Codec f g ok) (h : ∀ a, ok' a → ok a) : Codec f g ok' := ⟨fun a rest ha => A.back a rest (h a ha), A.reads, fun r hs ha => A.eats r hs (h _ ha)⟩
theorem Codec.val : Codec valR valB SizV :=
  ((Codec.small.seq (Codec.text.seq (Codec.num.seq (Codec.pr.many.seq (Codec.text.many.seq Codec.sc.many))))).iso tVal valT (fun v => rfl) (fun p => rfl)).ok
    fun v h => ⟨h.kind, h.text, h.count, h.pairs, h.items, h.scores⟩
abbrev EntT : Type := ByteArray × Val × Int
def tEnt (p : EntT) : Ent := ⟨p.1, p.2.1, p.2.2⟩
def entR : Rd → Ent × Rd := mapR tEnt (sqR txtR (sqR valR numR))
def entB (e : Ent) : List UInt8 := textB e.key ++ (valB e.val ++ numB e.till)
structure SizE (e : Ent) : Prop where
  key : e.key.size ≤ 255
  val : SizV e.val
  till : inNum e.till
theorem Codec.ent : Codec entR entB SizE :=
  ((Codec.text.seq (Codec.val.seq Codec.num)).iso tEnt (fun e => (e.key, e.val, e.till)) (fun e => rfl) (fun p => rfl)).ok fun e h => ⟨h.key, h.val, h.till⟩
abbrev CliT : Type := Int × Int × Int × Int × ByteArray × Int × List ByteArray
def tCli (p : CliT) : Cli := ⟨p.1, p.2.1, p.2.2.1, ⟨p.2.2.2.1, p.2.2.2.2.1, p.2.2.2.2.2.1, p.2.2.2.2.2.2⟩⟩
def cliR : Rd → Cli × Rd := mapR tCli (sqR numR (sqR numR (sqR numR (sqR smR (sqR txtR (sqR numR (eachR txtR)))))))
def cliB (x : Cli) : List UInt8 := numB x.id ++ (numB x.seq ++ (numB x.time ++ ([smallB x.reply.code] ++ (textB x.reply.text ++ (numB x.reply.n ++ manyB textB x.reply.list)))))
structure SizC (x : Cli) : Prop where
  id : inNum x.id
  seq : inNum x.seq
  time : inNum x.time
  code : 0 ≤ x.reply.code ∧ x.reply.code < 256
  text : x.reply.text.size ≤ 255
  n : inNum x.reply.n
  list : x.reply.list.length ≤ 255 ∧ ∀ t ∈ x.reply.list, t.size ≤ 255
theorem Codec.cli : Codec cliR cliB SizC :=
  ((Codec.num.seq (Codec.num.seq (Codec.num.seq (Codec.small.seq (Codec.text.seq (Codec.num.seq Codec.text.many)))))).iso tCli (fun x => (x.id, x.seq, x.time, x.reply.code, x.reply.text, x.reply.n, x.reply.list)) (fun x => rfl) (fun p => rfl)).ok
    fun x h => ⟨h.id, h.seq, h.time, h.code, h.text, h.n, h.list⟩
abbrev MachT : Type := Int × List Ent × Int × List Cli
def tMach (p : MachT) : Mach := ⟨⟨p.1, p.2.1⟩, p.2.2.1, p.2.2.2⟩
def machR : Rd → Mach × Rd := mapR tMach (sqR numR (sqR (eachR entR) (sqR numR (eachR cliR))))
def machB (m : Mach) : List UInt8 := numB m.sto.now ++ (manyB entB m.sto.ents ++ (numB m.next ++ manyB cliB m.clis))
structure SizM (m : Mach) : Prop where
  now : inNum m.sto.now
  ents : m.sto.ents.length ≤ 255 ∧ ∀ e ∈ m.sto.ents, SizE e
  next : inNum m.next
  clis : m.clis.length ≤ 255 ∧ ∀ x ∈ m.clis, SizC x
theorem Codec.mach : Codec machR machB SizM :=
  ((Codec.num.seq (Codec.ent.many.seq (Codec.num.seq Codec.cli.many))).iso tMach (fun m => (m.sto.now, m.sto.ents, m.next, m.clis)) (fun m => rfl) (fun p => rfl)).ok fun m h => ⟨h.now, h.ents, h.next, h.clis⟩
theorem okT_size {t : ByteArray} (h : okText t = true) : t.size ≤ 20 := by unfold okText at h; simp at h; omega
theorem okF_size {t : ByteArray} (h : okField t = true) : t.size ≤ 12 := by unfold okField at h; simp at h; omega
theorem okC_num {n : Int} (h : okCount n = true) : inNum n := by unfold okCount at h; simp at h; unfold inNum; omega
theorem OkV.siz {v : Val} (h : OkV v) : SizV v := by
  have hb := h.b
  have he := hb.els
  unfold Val.els at he
  refine ⟨by have := h.kind; omega, by have := okT_size h.okT; omega, okC_num h.okC, ⟨by omega, fun p hp => ?_⟩, ⟨by omega, fun t ht => ?_⟩, ⟨by omega, fun s hs => ?_⟩⟩
  · have := h.okP p hp; have h1 := okF_size this.1; have h2 := okT_size this.2; omega
  · have := okT_size (h.okI t ht); omega
  · have := h.okS s hs; have h1 := okT_size this.1; exact ⟨by omega, okC_num this.2⟩
theorem OkE.siz {now : Int} (h0 : 0 ≤ now) {e : Ent} (h : OkE now e) : SizE e := by
  refine ⟨by have := okF_size h.key; omega, h.val.siz, ?_⟩
  have := h.till
  unfold inNum; omega
theorem OkC.siz {next now : Int} (hn : next ≤ 1048577) (hw : now ≤ 1073741824) {x : Cli} (h : OkC next now x) : SizC x := by
  have hr := checkR_iff.1 h.reply
  have h1 := h.id; have h2 := h.seq; have h3 := h.time
  refine ⟨by unfold inNum; omega, by unfold inNum; omega, by unfold inNum; omega, by have := hr.code; omega, by have := okT_size hr.text; omega, okC_num hr.n, ⟨by have := hr.len; omega, fun t ht => by have := okT_size (hr.list t ht); omega⟩⟩
theorem OkM.siz {m : Mach} (h : OkM m) : SizM m := by
  have h1 := h.sto.now; have h2 := h.next
  exact ⟨by unfold inNum; omega, ⟨by have := h.sto.len; omega, fun e he => (h.sto.all e he).siz h1.1⟩, by unfold inNum; omega, ⟨by have := h.len; omega, fun x hx => (h.all x hx).siz h2.2 h1.2⟩⟩
def endR (r : Rd) : Int := if r.short = true then 9 else if 0 < r.rest.length then 8 else 0
def decM (l : List UInt8) : Mach × Int :=
  if 20000 < l.length then (zeroM, 1)
  else if endR (machR ⟨l, false⟩).2 ≠ 0 then (zeroM, endR (machR ⟨l, false⟩).2)
  else if checkM (machR ⟨l, false⟩).1 ≠ 0 then (zeroM, checkM (machR ⟨l, false⟩).1)
  else ((machR ⟨l, false⟩).1, 0)
theorem decM_back {m : Mach} (h : OkM m) (hl : (machB m).length ≤ 20000) : decM (machB m) = (m, 0) := by
  have e := Codec.mach.back m [] h.siz
  rw [List.append_nil] at e
  unfold decM
  rw [if_neg (by omega), e]
  simp only [endR]
  rw [if_neg (by simp), if_neg (by rw [checkM_iff.2 h]; simp)]
theorem flat_len {α : Type} {g : α → List UInt8} {b : Nat} : ∀ (l : List α), (∀ a ∈ l, (g a).length ≤ b) → (l.flatMap g).length ≤ l.length * b
  | [], _ => by simp
  | a :: l, h => by
    have ih := flat_len l fun x hx => h x (List.mem_cons_of_mem _ hx)
    have ha := h a (List.mem_cons_self ..)
    rw [List.flatMap_cons, List.length_append, List.length_cons, Nat.add_mul]
    omega
theorem many_len {α : Type} {g : α → List UInt8} {b : Nat} {l : List α} (h : ∀ a ∈ l, (g a).length ≤ b) : (manyB g l).length ≤ 1 + l.length * b := by
  unfold manyB
  rw [List.length_cons]
  have := flat_len l h
  omega
theorem valB_len' {v : Val} (h : OkV v) : (valB v).length ≤ 900 := by
  have hb := h.b
  have he := hb.els
  unfold Val.els at he
  have h1 := okT_size h.okT
  have p := many_len (g := prB) (b := 34) (l := v.pairs) fun p hp => by
    have := h.okP p hp; have a := okF_size this.1; have b := okT_size this.2
    unfold prB; rw [List.length_append, textB_len, textB_len]; omega
  have i := many_len (g := textB) (b := 34) (l := v.items) fun t ht => by have := okT_size (h.okI t ht); rw [textB_len]; omega
  have s := many_len (g := scB) (b := 34) (l := v.scores) fun s hs => by
    have := h.okS s hs; have a := okT_size this.1
    unfold scB; rw [List.length_append, textB_len, numB_len]; omega
  unfold valB
  simp only [List.length_append, textB_len, numB_len, List.length_cons, List.length_nil]
  omega
theorem machB_len {m : Mach} (h : OkM m) : (machB m).length ≤ 13500 := by
  have e := many_len (g := entB) (b := 930) (l := m.sto.ents) fun e he => by
    have ok := h.sto.all e he
    have a := okF_size ok.key; have b := valB_len' ok.val
    unfold entB; simp only [List.length_append, textB_len, numB_len]; omega
  have c := many_len (g := cliB) (b := 500) (l := m.clis) fun x hx => by
    have hr := checkR_iff.1 (h.all x hx).reply
    have a := okT_size hr.text
    have b := many_len (g := textB) (b := 21) (l := x.reply.list) fun t ht => by have := okT_size (hr.list t ht); rw [textB_len]; omega
    have l := hr.len
    unfold cliB; simp only [List.length_append, textB_len, numB_len, List.length_cons, List.length_nil]; omega
  have h1 := h.sto.len
  have h2 := h.len
  unfold machB
  simp only [List.length_append, numB_len]
  omega
end Go.Proofs.YtpdcfljbabpakaaGreatDoor
set_option linter.unusedVariables false
set_option linter.unusedSimpArgs false
set_option maxRecDepth 100000
set_option maxHeartbeats 8000000
namespace Go.Proofs.YtpdcfljbabpakaaGreatDoor
open Go Go.RowKit Go.Proofs.AE
variable {G : Nat → AV}
abbrev bC (b : Bool) : C := .v (.lit (.bool b))
def noCall (client seq k : Int) (key field text : ByteArray) (n : Int) : Bool := client == 0 && (seq == 0 && (k == 0 && (decide (key = ⟨#[]⟩) && (decide (field = ⟨#[]⟩) && (decide (text = ⟨#[]⟩) && n == 0)))))
def checkItem (term time : Int) (nop : Bool) (client seq k : Int) (key field text : ByteArray) (n : Int) : Int :=
  if decide (term < 1) then 2 else if decide (1048576 < term) then 2 else if decide (time < 0) then 2 else if decide (1073741824 < time) then 2
  else if nop then (if noCall client seq k key field text n then 0 else 8) else checkCall client seq k key field text n
theorem checkItem_c (term time : Int) (nop : Bool) (client seq k : Int) (key field text : ByteArray) (n : Int) :
    PCall Tryz.prog G 43 [.agg [iC term, iC time, bC nop, iC client, iC seq, iC k, sC key, sC field, sC text, iC n]] (iV (checkItem term time nop client seq k key field text n)) := by
  refine pcallc mixed Tryz.func43 ac_wire_CheckItem ?_
  repeat' (first | (with_reducible first | refine Cn (fun h => ?_) fun h => ?_ | refine And.intro ?_ ?_ | refine wR ?_ | exact wr _ _ | refine wa ?_ | apply awp_join | refine q (checkCall_c _ _ _ _ _ _ _) ?_ | refine qd (checkCall_c _ _ _ _ _ _ _) ?_ | refine qz (checkCall_c _ _ _ _ _ _ _) ?_) | (with_reducible refine CallZ.z ?_) | simp -dsimp [go_sem])
  all_goals simp_all [checkItem, noCall]
  all_goals ((repeat' split) <;> first | rfl | omega | (exfalso; simp_all; done))
def itemCall (client off kind key field n : Int) (text : ByteArray) : List C :=
  if pk client 5 = 0 ∨ pk client 5 = 1 then [iC 0, iC 0, iC 0, sC ⟨#[]⟩, sC ⟨#[]⟩, sC ⟨#[]⟩, iC 0] else iC (pk client 50 + 1) :: iC (1 + pk off 100) :: cmdOf (1 + pk kind 22) key field n text
theorem item_c (client off wait kind key field n : Int) (text : ByteArray) (term time : Int) (hc : i64 client) (ho : i64 off) (h1 : i64 kind) (h2 : i64 key) (h3 : i64 field) (h4 : i64 n) (ht : i64 term) (hi : i64 time) :
    PCall Tryz.prog G 68 [.agg [iC client, iC off, iC wait, iC kind, iC key, iC field, iC n, sC text], iV term, iV time]
      (.agg (iC (1 + pk term 1000) :: iC (pk time 100000) :: bC (decide (pk client 5 = 0)) :: itemCall client off kind key field n text)) := by
  have r1 := pk_range (n := term) (m := 1000) (by omega)
  have r2 := pk_range (n := client) (m := 50) (by omega)
  have r3 := pk_range (n := off) (m := 100) (by omega)
  have e1 : IntKind.i64.wrap (1 + pk term 1000) = 1 + pk term 1000 := IntWalk.i64_in _ (by omega)
  have e2 : IntKind.i64.wrap (pk client 50 + 1) = pk client 50 + 1 := IntWalk.i64_in _ (by omega)
  have e3 : IntKind.i64.wrap (1 + pk off 100) = 1 + pk off 100 := IntWalk.i64_in _ (by omega)
  refine pcallc mixed Tryz.func68 ac_rostrumkeep_Item ?_
  repeat' (first | (with_reducible first | refine Cn (fun h => ?_) fun h => ?_ | refine And.intro ?_ ?_ | refine wR ?_ | exact wr _ _ | refine wa ?_ | apply awp_join | refine q1 (by exact picked_c _ _ (by assumption) (by simp)) ?_ | refine q1d (by exact picked_c _ _ (by assumption) (by simp)) ?_ | refine q1 (by exact picked_c _ _ (by assumption) (by simp)) ?_ | refine q1d (by exact picked_c _ _ (by assumption) (by simp)) ?_ | refine q1 (by exact command_c _ _ _ _ _ (by assumption) (by assumption) (by assumption) (by assumption)) ?_ | refine q1d (by exact command_c _ _ _ _ _ (by assumption) (by assumption) (by assumption) (by assumption)) ?_) | (with_reducible refine CallZ.z ?_) | simp -dsimp [go_sem, cmdOf, e1, e2, e3])
  all_goals simp_all [itemCall, cmdOf, coeCs, coeC]
end Go.Proofs.YtpdcfljbabpakaaGreatDoor
set_option linter.unusedVariables false
set_option linter.unusedSimpArgs false
set_option maxRecDepth 100000
set_option maxHeartbeats 8000000
namespace Go.Proofs.YtpdcfljbabpakaaGreatDoor
open Go Go.RowKit Go.Proofs.AE
variable {G : Nat → AV}
theorem callGood {client off kind key field n : Int} {text : ByteArray} (h4 : i64 n) : ∀ c s k a b d m, itemCall client off kind key field n text = [iC c, iC s, iC k, sC a, sC b, sC d, iC m] → checkCall c s k a b d m = 0 := by
  intro c s k a b d m h
  have r2 := pk_range (n := client) (m := 50) (by omega)
  have r3 := pk_range (n := off) (m := 100) (by omega)
  unfold itemCall at h
  split at h
  · simp only [List.cons.injEq, C.v.injEq, V.lit.injEq, Value.int.injEq, Value.string.injEq, and_true, true_and] at h
    obtain ⟨rfl, rfl, rfl, rfl, rfl, rfl, rfl⟩ := h
    decide
  · simp only [List.cons.injEq, C.v.injEq, V.lit.injEq, Value.int.injEq, true_and] at h
    obtain ⟨rfl, rfl, h⟩ := h
    have hc := cmd_ok kind key field n text h4 k a b d m h
    have h1 : okNumber (pk client 50 + 1) = true := by simp only [okNumber, Bool.and_eq_true, decide_eq_true_eq]; omega
    have h2 : okNumber (1 + pk off 100) = true := by simp only [okNumber, Bool.and_eq_true, decide_eq_true_eq]; omega
    have h3 : ¬ pk client 50 + 1 = 0 := by omega
    simp [checkCall, h1, h2, h3, hc]
end Go.Proofs.YtpdcfljbabpakaaGreatDoor
set_option linter.unusedVariables false
set_option linter.unusedSimpArgs false
set_option maxRecDepth 100000
set_option maxHeartbeats 8000000
namespace Go.Proofs.YtpdcfljbabpakaaGreatDoor
open Go Go.RowKit Go.Proofs.AE
variable {G : Nat → AV}
structure Item where
  term : Int
  time : Int
  nop : Bool
  client : Int
  seq : Int
  k : Int
  key : ByteArray
  field : ByteArray
  text : ByteArray
  n : Int
def Item.row (x : Item) : List V := [iL x.term, iL x.time, .lit (.bool x.nop), iL x.client, iL x.seq, iL x.k, sL x.key, sL x.field, sL x.text, iL x.n]
def Item.check (x : Item) : Int := checkItem x.term x.time x.nop x.client x.seq x.k x.key x.field x.text x.n
noncomputable def itemOf (d : Deed) (term time : Int) : Item :=
  if pk d.client 5 = 0 ∨ pk d.client 5 = 1 then ⟨term, time, decide (pk d.client 5 = 0), 0, 0, 0, ⟨#[]⟩, ⟨#[]⟩, ⟨#[]⟩, 0⟩
  else match cmdOf (1 + pk d.kind 22) d.key d.field d.n d.text with
    | [.v (.lit (.int _ k)), .v (.lit (.string a)), .v (.lit (.string b)), .v (.lit (.string c)), .v (.lit (.int _ m))] => ⟨term, time, false, pk d.client 50 + 1, 1 + pk d.off 100, k, a, b, c, m⟩
    | _ => ⟨0, 0, false, 0, 0, 0, ⟨#[]⟩, ⟨#[]⟩, ⟨#[]⟩, 0⟩
theorem itemOf_call (d : Deed) (term time : Int) : itemCall d.client d.off d.kind d.key d.field d.n d.text = [iC (itemOf d term time).client, iC (itemOf d term time).seq, iC (itemOf d term time).k, sC (itemOf d term time).key, sC (itemOf d term time).field, sC (itemOf d term time).text, iC (itemOf d term time).n] := by
  unfold itemCall itemOf
  split
  · rfl
  · simp [cmdOf]
theorem itemOf_head (d : Deed) (term time : Int) : (itemOf d term time).term = term ∧ (itemOf d term time).time = time ∧ (itemOf d term time).nop = decide (pk d.client 5 = 0) := by
  unfold itemOf
  split
  · exact ⟨rfl, rfl, rfl⟩
  · rename_i h
    have : ¬ pk d.client 5 = 0 := fun e => h (.inl e)
    simp [cmdOf, this]
end Go.Proofs.YtpdcfljbabpakaaGreatDoor
set_option linter.unusedVariables false
set_option linter.unusedSimpArgs false
set_option maxRecDepth 100000
set_option maxHeartbeats 8000000
namespace Go.Proofs.YtpdcfljbabpakaaGreatDoor
open Go Go.RowKit Go.Proofs.AE
variable {G : Nat → AV}
theorem noCall_iff {client seq k : Int} {a b c : ByteArray} {n : Int} : noCall client seq k a b c n = true ↔ client = 0 ∧ seq = 0 ∧ k = 0 ∧ a = ⟨#[]⟩ ∧ b = ⟨#[]⟩ ∧ c = ⟨#[]⟩ ∧ n = 0 := by
  simp [noCall]
theorem call_bounds {client seq k : Int} {a b c : ByteArray} {n : Int} (h : checkCall client seq k a b c n = 0) :
    (client = 0 ∧ seq = 0 ∧ k = 0 ∧ a = ⟨#[]⟩ ∧ b = ⟨#[]⟩ ∧ c = ⟨#[]⟩ ∧ n = 0) ∨ (1 ≤ client ∧ client ≤ 1048576 ∧ 1 ≤ seq ∧ seq ≤ 1048576 ∧ checkCommand k a b c n = 0) := by
  unfold checkCall at h
  split at h
  · rename_i h0
    left
    split at h
    · rename_i h1
      simp only [decide_eq_true_eq] at h0
      simp only [Bool.and_eq_true, beq_iff_eq, decide_eq_true_eq] at h1
      exact ⟨h0, h1⟩
    · cases h
  · split at h
    · rename_i h1
      split at h
      · rename_i h2
        right
        simp only [okNumber, Bool.and_eq_true, decide_eq_true_eq] at h1 h2
        exact ⟨h1.1, h1.2, h2.1, h2.2, h⟩
      · cases h
    · cases h
theorem item_ok {x : Item} (h : x.check = 0) : 1 ≤ x.term ∧ x.term ≤ 1048576 ∧ 0 ≤ x.time ∧ x.time ≤ 1073741824 ∧ (x.nop = true → x.client = 0) ∧
    ((x.client = 0 ∧ x.seq = 0 ∧ x.k = 0 ∧ x.key = ⟨#[]⟩ ∧ x.field = ⟨#[]⟩ ∧ x.text = ⟨#[]⟩ ∧ x.n = 0) ∨ (1 ≤ x.client ∧ x.client ≤ 1048576 ∧ 1 ≤ x.seq ∧ x.seq ≤ 1048576 ∧ checkCommand x.k x.key x.field x.text x.n = 0)) := by
  unfold Item.check checkItem at h
  simp only [decide_eq_true_eq] at h
  by_cases h1 : x.term < 1
  · simp [h1] at h
  by_cases h2 : 1048576 < x.term
  · simp [h1, h2] at h
  by_cases h3 : x.time < 0
  · simp [h1, h2, h3] at h
  by_cases h4 : 1073741824 < x.time
  · simp [h1, h2, h3, h4] at h
  simp only [h1, h2, h3, h4, if_false] at h
  refine ⟨by omega, by omega, by omega, by omega, ?_⟩
  cases hx : x.nop
  · rw [hx] at h
    exact ⟨fun h => (by cases h), call_bounds (by simpa using h)⟩
  · rw [hx] at h
    simp only [if_true] at h
    split at h
    · rename_i hn
      have := noCall_iff.1 hn
      exact ⟨fun _ => this.1, .inl this⟩
    · cases h
structure WCmd where
  k : Int
  key : ByteArray
  field : ByteArray
  text : ByteArray
  n : Int
end Go.Proofs.YtpdcfljbabpakaaGreatDoor
set_option linter.unusedVariables false
set_option linter.unusedSimpArgs false
set_option maxRecDepth 100000
set_option maxHeartbeats 8000000
namespace Go.Proofs.YtpdcfljbabpakaaGreatDoor
open Go Go.RowKit Go.Proofs.AE
variable {G : Nat → AV}
abbrev rHp (r : Rd) : Hp := [some (.box 128 [.v (.sl (bR r.rest)), .v (.lit (.bool r.short))])]
theorem bR_take (l : List UInt8) (n : Nat) : (bR l).take n = bR (l.take n) := by simp [bR, List.map_take]
theorem bR_drop (l : List UInt8) (n : Nat) : (bR l).drop n = bR (l.drop n) := by simp [bR, List.map_drop]
theorem take_c (r : Rd) (n : Int) (hn : 0 ≤ n) : DetCall Tryz.prog G 88 1 (rHp r) [.one (.ptr 0 0), iV n] (.one (.v (.sl (bR (takeR r n.toNat).1)))) (rHp (takeR r n.toNat).2) := by
  refine gcallc mixed Tryz.func88 ac_wire_reader_take ?_
  have h1 := bR_len r.rest
  have h2 := bR_ul r.rest
  have h3 := bR_take r.rest n.toNat
  have h4 := bR_drop r.rest n.toNat
  unfold rHp
  by_cases hs : r.short = true
  · have ht : takeR r n.toNat = ([], ⟨r.rest, true⟩) := by unfold takeR; rw [if_pos (.inl hs)]
    rw [ht, hs]
    repeat' (first | (with_reducible first | refine Cn (fun h => ?_) fun h => ?_ | refine And.intro ?_ ?_ | refine wR ?_ | exact wr _ _ | refine wa ?_ | apply awp_join) | (with_reducible refine CallZ.z ?_) | simp -dsimp [go_sem, bR])
  · have hs' : r.short = false := by simpa using hs
    rw [hs']
    by_cases hl : (r.rest.length : Int) < n
    · have ht : takeR r n.toNat = ([], ⟨r.rest, true⟩) := by unfold takeR; rw [if_pos (.inr (by omega))]
      rw [ht]
      repeat' (first | (with_reducible first | refine Cn (fun h => ?_) fun h => ?_ | refine And.intro ?_ ?_ | refine wR ?_ | exact wr _ _ | refine wa ?_ | apply awp_join) | (with_reducible refine CallZ.z ?_) | simp -dsimp [go_sem, h1, hl])
      all_goals simp [bR]
    · have ht : takeR r n.toNat = (r.rest.take n.toNat, ⟨r.rest.drop n.toNat, false⟩) := by unfold takeR; rw [if_neg (by simp [hs']; omega)]
      rw [ht]
      have h5 : (bR r.rest).take r.rest.length = bR r.rest := by rw [bR_take, List.take_length]
      repeat' (first | (with_reducible first | refine Cn (fun h => ?_) fun h => ?_ | refine And.intro ?_ ?_ | refine wR ?_ | exact wr _ _ | refine wa ?_ | apply awp_join) | (with_reducible refine CallZ.z ?_) | simp -dsimp [go_sem, h1, hl, h2, h3, h4, h5])
      all_goals first | omega | skip
theorem shl_or (u : Nat) (c : UInt8) (hu : u < 18446744073709551616) : bitsV .or .u64 (IntKind.u64.wrap ((u : Int) * 256)) (c.toNat : Int) = ((u : Int) * 256 + c.toNat) % 18446744073709551616 := by
  have hc := c.toNat_lt
  have w64 : ∀ n : Nat, n < 18446744073709551616 → IntKind.u64.wrap (n : Int) = n := by
    intro n hn
    simp [IntKind.wrap, IntKind.bits, IntKind.signed]
    omega
  have h1 : IntKind.u64.wrap ((u : Int) * 256) = ((u * 256 % 18446744073709551616 : Nat) : Int) := by
    simp [IntKind.wrap, IntKind.bits, IntKind.signed]
  rw [h1]
  obtain ⟨v, hv⟩ : ∃ v, u * 256 % 18446744073709551616 = v * 256 := ⟨u * 256 % 18446744073709551616 / 256, by omega⟩
  have hv2 : v * 256 < 18446744073709551616 := by omega
  rw [hv, show ((u : Int) * 256 + c.toNat) % 18446744073709551616 = ((v * 256 + c.toNat : Nat) : Int) by omega]
  unfold bitsV
  simp only [IntKind.bits]
  have e1 : (BitVec.ofInt 64 ((v * 256 : Nat) : Int)) = BitVec.ofNat 64 (v * 256) := rfl
  have e2 : (BitVec.ofInt 64 (c.toNat : Int)) = BitVec.ofNat 64 c.toNat := rfl
  rw [e1, e2]
  change IntKind.u64.wrap (((BitVec.ofNat 64 (v * 256) ||| BitVec.ofNat 64 c.toNat : BitVec 64).toNat : Nat) : Int) = _
  simp only [BitVec.toNat_or, BitVec.toNat_ofNat]
  rw [Nat.mod_eq_of_lt (by omega), Nat.mod_eq_of_lt (by omega)]
  have e3 : v * 256 ||| c.toNat = v * 256 + c.toNat := by
    have := Nat.shiftLeft_add_eq_or_of_lt (i := 8) (b := c.toNat) (by omega) v
    rw [Nat.shiftLeft_eq] at this
    exact this.symm
  rw [e3, w64 _ (by omega)]
theorem wrap_back (u : Nat) : IntKind.i64.wrap (IntKind.u64.wrap ((u : Int) - 4611686018427387904)) = IntKind.i64.wrap ((u : Int) - 4611686018427387904) := by
  simp [IntKind.wrap, IntKind.bits, IntKind.signed]
theorem rnumber_c (r : Rd) : DetCall Tryz.prog G 55 1 (rHp r) [.one (.ptr 0 0)] (iV (numR r).1) (rHp (numR r).2) := by
  refine gcallc mixed Tryz.func55 ac_wire_reader_number ?_
  have ht := take_c (G := G) r 8 (by omega)
  have hl := takeR_len r 8
  unfold numR
  simp only [show (8 : Int).toNat = 8 from rfl] at ht
  generalize hq : takeR r 8 = q at *
  obtain ⟨b, r'⟩ := q
  simp only at ht hl ⊢
  have h1 := bR_len b
  unfold rHp
  repeat' (first | (with_reducible first | refine Cn (fun h => ?_) fun h => ?_ | refine And.intro ?_ ?_ | refine wR ?_ | exact wr _ _ | refine wa ?_ | apply awp_join | refine qg ht ?_ | refine qgd ht ?_) | (with_reducible refine CallZ.z ?_) | simp -dsimp [go_sem, h1])
  refine awp_loop (fun i : Nat => ⟨[(3, .one (.v (.lit (.int .u64 (uOf (b.take i)))))), (7, .one (.v (.sl (bR b)))), (8, iV b.length), (9, iV i)], G, rHp r'⟩) (fun i => i ≤ b.length) (fun i => b.length - i) 0 (weak_auto ?_) (Nat.zero_le _) ?_
  · simp -dsimp [go_sem]
    rfl
  · intro i hi
    unfold rHp
    simp -dsimp [go_sem]
    refine Cnd.intro (fun h => ?_) (fun h => ?_)
    · have hlt : i < b.length := by simpa using h
      have hgi : (bR b)[i]? = some [.lit (.int .u8 (b[i].toNat : Int))] := by simp [bR, hlt]
      have e1 : IntKind.i64.wrap ((i : Int) + 1) = i + 1 := IntWalk.i64_in _ (by omega)
      have e2 := shl_or (uOf (b.take i)) b[i] (uOf_lt _)
      have e3 : IntKind.u64.wrap (b[i].toNat : Int) = b[i].toNat := by
        have := b[i].toNat_lt
        simp [IntKind.wrap, IntKind.bits, IntKind.signed]
        omega
      have e4 : uOf (b.take (i + 1)) = (uOf (b.take i) * 256 + b[i].toNat) % 18446744073709551616 := by rw [List.take_succ_eq_append_getElem hlt, uOf_snoc]
      repeat' (first | (with_reducible first | refine Cn (fun h => ?_) fun h => ?_ | refine And.intro ?_ ?_ | refine wR ?_ | exact wr _ _ | refine wa ?_ | apply awp_join) | (with_reducible refine CallZ.z ?_) | simp -dsimp [go_sem, hgi, e1, e2, e3])
      all_goals first | omega | (with_reducible refine Again.auto (i + 1) ?_ ?_ ?_) | skip
      · simp -dsimp [go_sem, e4, e2]
      · exact hlt
      · show b.length - (i + 1) < b.length - i
        omega
    · have hij : i = b.length := by simp at h; omega
      subst hij
      have e5 : b.take b.length = b := List.take_length
      have e6 : IntKind.i64.wrap (IntKind.u64.wrap ((uOf b : Int) - 4611686018427387904)) = numOf b := wrap_back _
      rw [e5]
      repeat' (first | (with_reducible first | refine Cn (fun h => ?_) fun h => ?_ | refine And.intro ?_ ?_ | refine wR ?_ | exact wr _ _ | refine wa ?_ | apply awp_join) | (with_reducible refine CallZ.z ?_) | simp -dsimp [go_sem, e6])
theorem rsmall_c (r : Rd) : DetCall Tryz.prog G 61 1 (rHp r) [.one (.ptr 0 0)] (iV (smallR r).1) (rHp (smallR r).2) := by
  refine gcallc mixed Tryz.func61 ac_wire_reader_small ?_
  have ht := take_c (G := G) r 1 (by omega)
  unfold smallR
  simp only [show (1 : Int).toNat = 1 from rfl] at ht
  generalize hq : takeR r 1 = q at *
  obtain ⟨b, r'⟩ := q
  simp only at ht ⊢
  have h1 := bR_len b
  unfold rHp
  repeat' (first | (with_reducible first | refine Cn (fun h => ?_) fun h => ?_ | refine And.intro ?_ ?_ | refine wR ?_ | exact wr _ _ | refine wa ?_ | apply awp_join | refine qg ht ?_ | refine qgd ht ?_) | (with_reducible refine CallZ.z ?_) | simp -dsimp [go_sem, h1])
  refine awp_loop (fun _ : Unit => ⟨[(6, .one (.v (.sl (bR b)))), (7, iV b.length), (8, iV 0)], G, rHp r'⟩) (fun _ => True) (fun _ => 0) () (weak_auto ?_) trivial ?_
  · simp -dsimp [go_sem]
  · intro _ _
    unfold rHp
    cases b with
    | nil => repeat' (first | (with_reducible first | refine Cn (fun h => ?_) fun h => ?_ | refine And.intro ?_ ?_ | refine wR ?_ | exact wr _ _ | refine wa ?_ | apply awp_join) | (with_reducible refine CallZ.z ?_) | simp -dsimp [go_sem])
    | cons c b =>
      have hgi : (bR (c :: b))[0]? = some [.lit (.int .u8 (c.toNat : Int))] := by simp [bR]
      have e3 : IntKind.i64.wrap (c.toNat : Int) = c.toNat := by
        have := c.toNat_lt
        exact IntWalk.i64_in _ (by omega)
      repeat' (first | (with_reducible first | refine Cn (fun h => ?_) fun h => ?_ | refine And.intro ?_ ?_ | refine wR ?_ | exact wr _ _ | refine wa ?_ | apply awp_join) | (with_reducible refine CallZ.z ?_) | simp -dsimp [go_sem, hgi, e3])
theorem rtext_c (r : Rd) : DetCall Tryz.prog G 58 1 (rHp r) [.one (.ptr 0 0)] (sV (txtR r).1) (rHp (txtR r).2) := by
  refine gcallc mixed Tryz.func58 ac_wire_reader_text ?_
  have h1 := bR_bytes
  unfold txtR rHp
  repeat' (first | (with_reducible first | refine Cn (fun h => ?_) fun h => ?_ | refine And.intro ?_ ?_ | refine wR ?_ | exact wr _ _ | refine wa ?_ | apply awp_join | refine qg (rsmall_c _) ?_ | refine qgd (rsmall_c _) ?_ | refine qg (take_c _ _ (Int.natCast_nonneg _)) ?_ | refine qgd (take_c _ _ (Int.natCast_nonneg _)) ?_) | (with_reducible refine CallZ.z ?_) | simp -dsimp [go_sem, h1])
theorem rend_c (r : Rd) (ok : Bool) : DetCall Tryz.prog G 63 1 (rHp r) [.one (.ptr 0 0), bV ok] (iV (if r.short then 9 else if ok = false ∨ 0 < r.rest.length then 8 else 0)) (rHp r) := by
  refine gcallc mixed Tryz.func63 ac_wire_reader_end ?_
  have h1 := bR_len r.rest
  unfold rHp
  cases hs : r.short <;> cases ok
  all_goals
    repeat' (first | (with_reducible first | refine Cn (fun h => ?_) fun h => ?_ | refine And.intro ?_ ?_ | refine wR ?_ | exact wr _ _ | refine wa ?_ | apply awp_join) | (with_reducible refine CallZ.z ?_) | simp -dsimp [go_sem, h1])
  all_goals first | (simp_all; done) | (intro hh; simp_all)
end Go.Proofs.YtpdcfljbabpakaaGreatDoor
set_option linter.unusedVariables false
set_option linter.unusedSimpArgs false
set_option maxRecDepth 100000
set_option maxHeartbeats 8000000
namespace Go.Proofs.YtpdcfljbabpakaaGreatDoor
open Go Go.RowKit Go.Proofs.AE
variable {G : Nat → AV}
abbrev WCmd.cells (c : WCmd) : List C := [iC c.k, sC c.key, sC c.field, sC c.text, iC c.n]
def zeroItem : Item := ⟨0, 0, false, 0, 0, 0, ⟨#[]⟩, ⟨#[]⟩, ⟨#[]⟩, 0⟩
end Go.Proofs.YtpdcfljbabpakaaGreatDoor
set_option linter.unusedVariables false
set_option linter.unusedSimpArgs false
set_option maxRecDepth 100000
set_option maxHeartbeats 8000000
namespace Go.Proofs.YtpdcfljbabpakaaGreatDoor
open Go Go.RowKit Go.Proofs.AE
variable {G : Nat → AV}
theorem Reads.pure {α : Type} (a : α) : Reads (fun r => (a, r)) := ⟨fun _ => rfl, fun _ _ _ => rfl⟩
end Go.Proofs.YtpdcfljbabpakaaGreatDoor
set_option linter.unusedVariables false
set_option linter.unusedSimpArgs false
set_option maxRecDepth 100000
set_option maxHeartbeats 8000000
namespace Go.Proofs.YtpdcfljbabpakaaGreatDoor
open Go Go.RowKit Go.Proofs.AE
variable {G : Nat → AV}
abbrev logC (base bt : Int) (x : List Item) : List C := [iC base, iC bt, .v (.sl (x.map Item.row))]
def chk : List Item → Int → Int → Bool
  | [], _, _ => true
  | x :: l, t, m => x.check == 0 && (decide (t ≤ x.term) && (decide (m ≤ x.time) && chk l x.term x.time))
def headOk (base bt : Int) (len : Nat) : Bool :=
  !decide (base < 0) && (!decide (bt < 0) && (!decide (1048576 < bt) && ((base == 0) == (bt == 0) && (!decide (200 < (len : Int)) && !decide (1048576 - (len : Int) < base)))))
def checkLog (base bt : Int) (x : List Item) : Int := if headOk base bt x.length then (if chk x bt 0 then 0 else 13) else 13
theorem checkLog_c (base bt : Int) (x : List Item) (hx : (x.length : Int) ≤ 9223372036854775807) :
    PCall Tryz.prog G 22 [.agg (logC base bt x)] (iV (checkLog base bt x)) := by
  refine pcallc mixed Tryz.func22 ac_ledger_Check ?_
  have e1 : IntKind.i64.wrap (1048576 - (x.length : Int)) = 1048576 - (x.length : Int) := IntWalk.i64_in _ (by omega)
  repeat' (first | (with_reducible first | refine Cn (fun h => ?_) fun h => ?_ | refine And.intro ?_ ?_ | refine wR ?_ | exact wr _ _ | refine wa ?_ | apply awp_join) | (with_reducible refine CallZ.z ?_) | simp -dsimp [go_sem, e1])
  all_goals first
    | (with_reducible refine awp_loop (fun y : Nat × Int × Int => ⟨[(3, iV y.2.1), (4, iV y.2.2), (47, .one (.v (.sl (x.map Item.row)))), (48, iV x.length), (49, iV y.1)], G, []⟩) (fun y => y.1 ≤ x.length ∧ chk x bt 0 = chk (x.drop y.1) y.2.1 y.2.2) (fun y => x.length - y.1) (0, bt, 0) ?_ ?_ ?_)
    | (simp only [Bool.not_true, Bool.not_false] at *; simp only [checkLog, headOk, *]; rfl)
    | (simp_all [checkLog, headOk]; done)
  · refine weak_auto ?_
    simp -dsimp [go_sem]
  · simp
  · have hh : headOk base bt x.length = true := by simp_all [headOk]
    have hcl : checkLog base bt x = if chk x bt 0 then 0 else 13 := by simp [checkLog, hh]
    rintro ⟨i, t, m⟩ ⟨a1, a2⟩
    simp only at a1 a2
    rw [a2] at hcl
    simp -dsimp [go_sem]
    refine Cnd.intro (fun h => ?_) (fun h => ?_)
    · have hlt : i < x.length := by simpa using h
      obtain ⟨y, hy⟩ : ∃ y, x[i]? = some y := ⟨_, List.getElem?_eq_getElem hlt⟩
      have hgi : (x.map Item.row)[i]? = some y.row := by simp [hy]
      have hdrop : x.drop i = y :: x.drop (i + 1) := by
        rw [List.drop_eq_getElem_cons hlt]
        congr 1
        rw [List.getElem?_eq_getElem hlt] at hy
        exact Option.some.inj hy
      rw [hdrop] at hcl a2
      have n1 : decide (t ≤ y.term) = !decide (y.term < t) := by by_cases h : t ≤ y.term <;> simp [h] <;> omega
      have n2 : decide (m ≤ y.time) = !decide (y.time < m) := by by_cases h : m ≤ y.time <;> simp [h] <;> omega
      have n3 : (y.check == 0) = !(y.check != 0) := by simp [bne]
      simp only [chk, n1, n2, n3] at hcl a2
      have hck : checkItem y.term y.time y.nop y.client y.seq y.k y.key y.field y.text y.n = y.check := rfl
      have e4 : IntKind.i64.wrap ((i : Int) + 1) = (i : Int) + 1 := IntWalk.i64_in _ (by omega)
      repeat' (first | (with_reducible first | refine Cn (fun h => ?_) fun h => ?_ | refine And.intro ?_ ?_ | refine wR ?_ | exact wr _ _ | refine wa ?_ | apply awp_join | refine q (checkItem_c _ _ _ _ _ _ _ _ _ _) ?_ | refine qd (checkItem_c _ _ _ _ _ _ _ _ _ _) ?_ | refine qz (checkItem_c _ _ _ _ _ _ _ _ _ _) ?_) | (with_reducible refine CallZ.z ?_) | simp -dsimp [go_sem, hgi, Item.row, hck, e4])
      all_goals first
        | (with_reducible refine Again.view (i + 1, y.term, y.time) [] [] ?_ ?_ ?_ ?_ ?_ ?_ ?_ ?_)
        | (simp only [Bool.not_true, Bool.not_false] at *; simp only [hcl, *]; rfl)
        | (simp_all; done)
      · rfl
      · rfl
      · simp
      · simp
      · simp -dsimp [go_sem]
      · exact trivial
      · refine ⟨hlt, ?_⟩
        simp only [Bool.not_true, Bool.not_false] at *
        simp only [a2, *]
        simp
      · show x.length - (i + 1) < x.length - i
        omega
    · have hge : ¬ i < x.length := by simpa using h
      have : i = x.length := by omega
      subst this
      simp [chk] at hcl
      simp -dsimp [go_sem, hcl]
end Go.Proofs.YtpdcfljbabpakaaGreatDoor
set_option linter.unusedVariables false
set_option linter.unusedSimpArgs false
set_option maxRecDepth 100000
set_option maxHeartbeats 8000000
namespace Go.Proofs.YtpdcfljbabpakaaGreatDoor
open Go Go.RowKit Go.Proofs.AE
variable {G : Nat → AV}
def lastTerm (bt : Int) (x : List Item) : Int := match x[x.length - 1]? with | some y => y.term | none => bt
theorem last_c (base bt : Int) (x : List Item) (hb : 0 ≤ base ∧ base ≤ 1048576) (hx : x.length ≤ 200) : PCall Tryz.prog G 112 [.agg (logC base bt x)] (.tup [iV (base + x.length), iV (lastTerm bt x)]) := by
  have e1 : IntKind.i64.wrap (base + x.length) = base + x.length := IntWalk.i64_in _ (by omega)
  have e2 : IntKind.i64.wrap ((x.length : Int) - 1) = (x.length : Int) - 1 := IntWalk.i64_in _ (by omega)
  refine pcallc mixed Tryz.func112 ac_ledger_last ?_
  by_cases h0 : 0 < x.length
  · obtain ⟨y, hy⟩ : ∃ y, x[x.length - 1]? = some y := ⟨_, List.getElem?_eq_getElem (by omega)⟩
    have hl : lastTerm bt x = y.term := by unfold lastTerm; rw [hy]
    have hn : ((x.length : Int) - 1).toNat = x.length - 1 := by omega
    have hgi : (x.map Item.row)[x.length - 1]? = some y.row := by rw [List.getElem?_map, hy]; rfl
    have hne : ¬ x = [] := by intro h; rw [h] at h0; simp at h0
    rw [hl]
    repeat' (first | (with_reducible first | refine Cn (fun h => ?_) fun h => ?_ | refine And.intro ?_ ?_ | refine wR ?_ | exact wr _ _ | refine wa ?_ | apply awp_join) | (with_reducible refine CallZ.z ?_) | simp -dsimp [go_sem, e1, e2, hn, hgi, Item.row])
    all_goals first | omega | simp_all
  · have hx0 : x = [] := List.eq_nil_of_length_eq_zero (by omega)
    subst hx0
    repeat' (first | (with_reducible first | refine Cn (fun h => ?_) fun h => ?_ | refine And.intro ?_ ?_ | refine wR ?_ | exact wr _ _ | refine wa ?_ | apply awp_join) | (with_reducible refine CallZ.z ?_) | simp -dsimp [go_sem, lastTerm])
    all_goals simp_all [lastTerm]
theorem last_c' (base bt : Int) (x : List Item) (h : checkLog base bt x = 0) : 0 ≤ base ∧ base ≤ 1048576 ∧ x.length ≤ 200 ∧ 0 ≤ bt ∧ bt ≤ 1048576 := by
  unfold checkLog at h
  split at h
  · rename_i hh
    simp [headOk] at hh
    omega
  · cases h
theorem lastGood_c (base bt : Int) (x : List Item) (h : checkLog base bt x = 0) : PCall Tryz.prog G 95 [.agg (logC base bt x)] (.tup [iV (base + x.length), iV (lastTerm bt x), iV 0]) := by
  obtain ⟨b1, b2, b3, b4, b5⟩ := last_c' base bt x h
  refine pcallc mixed Tryz.func95 ac_ledger_Last ?_
  repeat' (first | (with_reducible first | refine Cn (fun h => ?_) fun h => ?_ | refine And.intro ?_ ?_ | refine wR ?_ | exact wr _ _ | refine wa ?_ | apply awp_join | refine q1 (by exact checkLog_c _ _ _ (by omega)) ?_ | refine q1d (by exact checkLog_c _ _ _ (by omega)) ?_ | refine q (last_c _ _ _ ⟨b1, b2⟩ b3) ?_ | refine qd (last_c _ _ _ ⟨b1, b2⟩ b3) ?_ | refine qz (last_c _ _ _ ⟨b1, b2⟩ b3) ?_) | (with_reducible refine CallZ.z ?_) | simp -dsimp [go_sem, h])
def termAt (base bt : Int) (x : List Item) (place : Int) : Int := if place < base then 0 else if place = base then bt else if (x.length : Int) < place - base then 0 else match x[(place - base - 1).toNat]? with | some y => y.term | none => 0
def termErr (base : Int) (len : Nat) (place : Int) : Int := if place < base then 11 else if place = base then 0 else if (len : Int) < place - base then 5 else 0
theorem term_c (base bt : Int) (x : List Item) (place : Int) (hb : 0 ≤ base ∧ base ≤ 1048576) (hx : x.length ≤ 200) (hp : 0 ≤ place ∧ place ≤ 1048576) : PCall Tryz.prog G 45 [.agg (logC base bt x), iV place] (.tup [iV (termAt base bt x place), iV (termErr base x.length place)]) := by
  have e1 : IntKind.i64.wrap (place - base) = place - base := IntWalk.i64_in _ (by omega)
  have e2 : IntKind.i64.wrap (place - base - 1) = place - base - 1 := IntWalk.i64_in _ (by omega)
  by_cases h1 : place < base
  · refine pcallc mixed Tryz.func45 ac_ledger_term ?_
    repeat' (first | (with_reducible first | refine Cn (fun h => ?_) fun h => ?_ | refine And.intro ?_ ?_ | refine wR ?_ | exact wr _ _ | refine wa ?_ | apply awp_join) | (with_reducible refine CallZ.z ?_) | simp -dsimp [go_sem, h1, termAt, termErr])
  by_cases h2 : place = base
  · refine pcallc mixed Tryz.func45 ac_ledger_term ?_
    subst h2
    repeat' (first | (with_reducible first | refine Cn (fun h => ?_) fun h => ?_ | refine And.intro ?_ ?_ | refine wR ?_ | exact wr _ _ | refine wa ?_ | apply awp_join) | (with_reducible refine CallZ.z ?_) | simp -dsimp [go_sem, termAt, termErr])
  by_cases h3 : (x.length : Int) < place - base
  · refine pcallc mixed Tryz.func45 ac_ledger_term ?_
    repeat' (first | (with_reducible first | refine Cn (fun h => ?_) fun h => ?_ | refine And.intro ?_ ?_ | refine wR ?_ | exact wr _ _ | refine wa ?_ | apply awp_join) | (with_reducible refine CallZ.z ?_) | simp -dsimp [go_sem, h1, h2, h3, e1, termAt, termErr])
    all_goals simp_all
  · obtain ⟨y, hy⟩ : ∃ y, x[(place - base - 1).toNat]? = some y := ⟨_, List.getElem?_eq_getElem (by omega)⟩
    have hgi : (x.map Item.row)[(place - base - 1).toNat]? = some y.row := by rw [List.getElem?_map, hy]; rfl
    have hgi' : (x.map Item.row)[(place - base).toNat - 1]? = some y.row := by rw [show (place - base).toNat - 1 = (place - base - 1).toNat by omega]; exact hgi
    have hpos : 0 ≤ place - base - 1 := by omega
    have hta : termAt base bt x place = y.term := by unfold termAt; rw [if_neg h1, if_neg h2, if_neg h3, hy]
    have hte : termErr base x.length place = 0 := by unfold termErr; rw [if_neg h1, if_neg h2, if_neg h3]
    refine pcallc mixed Tryz.func45 ac_ledger_term ?_
    rw [hta, hte]
    repeat' (first | (with_reducible first | refine Cn (fun h => ?_) fun h => ?_ | refine And.intro ?_ ?_ | refine wR ?_ | exact wr _ _ | refine wa ?_ | apply awp_join) | (with_reducible refine CallZ.z ?_) | simp -dsimp [go_sem, h1, h2, h3, e1, e2, hgi, hgi', Item.row])
    all_goals first | omega | simp_all
theorem termGood_c (base bt : Int) (x : List Item) (place : Int) (h : checkLog base bt x = 0) (hp : 0 ≤ place ∧ place ≤ 1048576) : PCall Tryz.prog G 21 [.agg (logC base bt x), iV place] (.tup [iV (termAt base bt x place), iV (termErr base x.length place)]) := by
  obtain ⟨b1, b2, b3, b4, b5⟩ := last_c' base bt x h
  have p1 : ¬ place < 0 := by omega
  have p2 : ¬ 1048576 < place := by omega
  refine pcallc mixed Tryz.func21 ac_ledger_Term ?_
  repeat' (first | (with_reducible first | refine Cn (fun h => ?_) fun h => ?_ | refine And.intro ?_ ?_ | refine wR ?_ | exact wr _ _ | refine wa ?_ | apply awp_join | refine q1 (by exact checkLog_c _ _ _ (by omega)) ?_ | refine q1d (by exact checkLog_c _ _ _ (by omega)) ?_ | refine q (term_c _ _ _ _ ⟨b1, b2⟩ b3 hp) ?_ | refine qd (term_c _ _ _ _ ⟨b1, b2⟩ b3 hp) ?_ | refine qz (term_c _ _ _ _ ⟨b1, b2⟩ b3 hp) ?_) | (with_reducible refine CallZ.z ?_) | simp -dsimp [go_sem, h, p1, p2])
end Go.Proofs.YtpdcfljbabpakaaGreatDoor
set_option linter.unusedVariables false
set_option linter.unusedSimpArgs false
set_option maxRecDepth 100000
set_option maxHeartbeats 8000000
namespace Go.Proofs.YtpdcfljbabpakaaGreatDoor
open Go Go.RowKit Go.Proofs.AE
theorem itemOf_check (d : Deed) (hd : d.Ok) {term time : Int} (h1 : 1 ≤ term ∧ term ≤ 1048576) (h2 : 0 ≤ time ∧ time ≤ 1073741824) : (itemOf d term time).check = 0 := by
  have hI := itemOf_call d term time
  obtain ⟨t1, t2, t3⟩ := itemOf_head d term time
  unfold Item.check
  rw [t1, t2, t3]
  generalize itemOf d term time = x at *
  have hg := callGood hd.n _ _ _ _ _ _ _ hI
  have n1 : ¬ term < 1 := by omega
  have n2 : ¬ 1048576 < term := by omega
  have n3 : ¬ time < 0 := by omega
  have n4 : ¬ 1073741824 < time := by omega
  by_cases h : pk d.client 5 = 0
  · unfold itemCall at hI
    rw [if_pos (.inl h)] at hI
    simp only [List.cons.injEq, C.v.injEq, V.lit.injEq, Value.int.injEq, Value.string.injEq, and_true, true_and] at hI
    obtain ⟨e1, e2, e3, e4, e5, e6, e7⟩ := hI
    have hnc : noCall x.client x.seq x.k x.key x.field x.text x.n = true := by
      rw [← e1, ← e2, ← e3, ← e4, ← e5, ← e6, ← e7]; decide
    simp [checkItem, n1, n2, n3, n4, h, hnc]
  · simp [checkItem, n1, n2, n3, n4, h, hg]
end Go.Proofs.YtpdcfljbabpakaaGreatDoor
set_option linter.unusedVariables false
set_option linter.unusedSimpArgs false
set_option maxRecDepth 100000
set_option maxHeartbeats 8000000
namespace Go.Proofs.YtpdcfljbabpakaaGreatDoor
open Go Go.RowKit Go.Proofs.AE
variable {G : Nat → AV}
end Go.Proofs.YtpdcfljbabpakaaGreatDoor
set_option linter.unusedVariables false
set_option linter.unusedSimpArgs false
set_option maxRecDepth 100000
set_option maxHeartbeats 8000000
namespace Go.Proofs.YtpdcfljbabpakaaGreatDoor
open Go Go.RowKit Go.Proofs.AE
end Go.Proofs.YtpdcfljbabpakaaGreatDoor
set_option linter.unusedVariables false
set_option linter.unusedSimpArgs false
set_option maxRecDepth 100000
set_option maxHeartbeats 8000000
namespace Go.Proofs.YtpdcfljbabpakaaGreatDoor
open Go Go.RowKit Go.Proofs.AE
variable {G : Nat → AV}
def Item.same (x y : Item) : Bool := (x.term == y.term) && ((x.time == y.time) && ((x.nop == y.nop) && ((x.client == y.client) && ((x.seq == y.seq) && ((x.k == y.k) && (decide (x.key = y.key) && (decide (x.field = y.field) && (decide (x.text = y.text) && (x.n == y.n)))))))))
theorem Item.same_iff (x y : Item) : x.same y = true ↔ x = y := by
  cases x; cases y; simp [Item.same]
instance : DecidableEq Item := fun x y => decidable_of_iff (x.same y = true) (Item.same_iff x y)
theorem last_room (base bt : Int) (x : List Item) (h : checkLog base bt x = 0) : base + x.length ≤ 1048576 := by
  unfold checkLog at h
  split at h
  · rename_i hh
    simp [headOk] at hh
    omega
  · cases h
theorem termErr_range {base : Int} {n : Nat} {place : Int} (ht : termErr base n place = 0) : base ≤ place ∧ place - base ≤ n := by
  unfold termErr at ht
  split at ht
  · cases ht
  · split at ht
    · omega
    · split at ht
      · cases ht
      · omega
theorem termI_c (base bt : Int) (x : List Item) (place : Int) (hb : 0 ≤ base ∧ base + x.length ≤ 1048576) (hx : x.length ≤ 200) (hp : i64 place) : PCall Tryz.prog G 45 [.agg (logC base bt x), iV place] (.tup [iV (termAt base bt x place), iV (termErr base x.length place)]) := by
  unfold i64 at hp
  by_cases h1 : place < base
  · refine pcallc mixed Tryz.func45 ac_ledger_term ?_
    repeat' (first | (with_reducible first | refine Cn (fun h => ?_) fun h => ?_ | refine And.intro ?_ ?_ | refine wR ?_ | exact wr _ _ | refine wa ?_ | apply awp_join) | (with_reducible refine CallZ.z ?_) | simp -dsimp [go_sem, h1, termAt, termErr])
  · by_cases h2 : place ≤ 1048576
    · exact term_c base bt x place ⟨hb.1, by omega⟩ hx ⟨by omega, h2⟩
    · have e1 : IntKind.i64.wrap (place - base) = place - base := IntWalk.i64_in _ (by omega)
      have h3 : ¬ place = base := by omega
      have h4 : (x.length : Int) < place - base := by omega
      refine pcallc mixed Tryz.func45 ac_ledger_term ?_
      repeat' (first | (with_reducible first | refine Cn (fun h => ?_) fun h => ?_ | refine And.intro ?_ ?_ | refine wR ?_ | exact wr _ _ | refine wa ?_ | apply awp_join) | (with_reducible refine CallZ.z ?_) | simp -dsimp [go_sem, h1, h3, h4, e1, termAt, termErr])
      all_goals simp_all
theorem cloneItems_c (rows : List (List V)) (hu : UL 10 rows) (hx : rows.length ≤ 1000000) : PCall Tryz.prog G 71 [.one (.v (.sl rows))] (.one (.v (.sl rows))) := by
  refine pcallc mixed Tryz.func71 ac_slices_Clone_api_Item ?_
  repeat' (first | (with_reducible first | refine Cn (fun h => ?_) fun h => ?_ | refine And.intro ?_ ?_ | refine wR ?_ | exact wr _ _ | refine wa ?_ | apply awp_join | refine q (cases q) ?_ | refine qd (cases q) ?_ | refine qz (cases q) ?_) | (intro q hq) | (with_reducible refine CallZ.z ?_) | simp -dsimp [go_sem])
  all_goals first | omega | exact hu _ ‹_›
theorem ul_rows (x : List Item) : UL 10 (x.map Item.row) := by
  intro r hr
  obtain ⟨y, _, rfl⟩ := List.mem_map.1 hr
  rfl
theorem ul_take {k n : Nat} {rows : List (List V)} (h : UL k rows) : UL k (rows.take n) := fun r hr => h r (List.mem_of_mem_take hr)
theorem ul_drop {k n : Nat} {rows : List (List V)} (h : UL k rows) : UL k (rows.drop n) := fun r hr => h r (List.mem_of_mem_drop hr)
theorem trim_c (base bt : Int) (x : List Item) (place : Int) (h : checkLog base bt x = 0) (hp : i64 place) (ht : termErr base x.length place = 0) :
    PCall Tryz.prog G 80 [.agg (logC base bt x), iV place] (.tup [.agg (logC place (termAt base bt x place) (x.drop (place - base).toNat)), iV 0]) := by
  obtain ⟨b1, b2, b3, b4, b5⟩ := last_c' base bt x h
  have b6 := last_room base bt x h
  have hr := termErr_range ht
  have e1 : IntKind.i64.wrap (place - base) = place - base := IntWalk.i64_in _ (by omega)
  have hcl : ∀ n : Nat, UL 10 ((x.map Item.row).drop n) ∧ ((x.map Item.row).drop n).length ≤ 1000000 := fun n => ⟨ul_drop (ul_rows x), by simp; omega⟩
  have htk : (x.map Item.row).take x.length = x.map Item.row := List.take_of_length_le (by simp)
  refine pcallc mixed Tryz.func80 ac_ledger_Trim ?_
  repeat' (first | (with_reducible first | refine Cn (fun h => ?_) fun h => ?_ | refine And.intro ?_ ?_ | refine wR ?_ | exact wr _ _ | refine wa ?_ | apply awp_join | refine q1 (by exact checkLog_c _ _ _ (by omega)) ?_ | refine q1d (by exact checkLog_c _ _ _ (by omega)) ?_ | refine q (termI_c _ _ _ _ ⟨b1, b6⟩ b3 hp) ?_ | refine qd (termI_c _ _ _ _ ⟨b1, b6⟩ b3 hp) ?_ | refine qz (termI_c _ _ _ _ ⟨b1, b6⟩ b3 hp) ?_ | refine q (cloneItems_c _ (hcl _).1 (hcl _).2) ?_ | refine qd (cloneItems_c _ (hcl _).1 (hcl _).2) ?_ | refine qz (cloneItems_c _ (hcl _).1 (hcl _).2) ?_) | (with_reducible refine CallZ.z ?_) | simp -dsimp [go_sem, htk, h, ht, e1])
  all_goals first | omega | exact ul_rows _ | (simp [List.map_drop]; done) | skip
end Go.Proofs.YtpdcfljbabpakaaGreatDoor
set_option linter.unusedVariables false
set_option linter.unusedSimpArgs false
set_option maxRecDepth 100000
set_option maxHeartbeats 8000000
namespace Go.Proofs.YtpdcfljbabpakaaGreatDoor
open Go Go.RowKit Go.Proofs.AE
structure Rcd where
  kind : Int
  term : Int
  fr : Int
  index : Int
  item : Item
  sidx : Int
  sterm : Int
  mach : Mach
def noSnap (r : Rcd) : Bool := r.sidx == 0 && r.sterm == 0 && r.mach.next == 0 && r.mach.clis.isEmpty && r.mach.sto.now == 0 && r.mach.sto.ents.isEmpty
def checkSnap (i t : Int) (m : Mach) : Int := if okNumber i = false ∨ okNumber t = false then 2 else checkM m
def checkRc (r : Rcd) : Int :=
  if r.kind < 1 ∨ 3 < r.kind then 3
  else if (r.kind ≠ 1 ∧ (r.term ≠ 0 ∨ r.fr ≠ 0)) ∨ (r.kind ≠ 2 ∧ (r.index ≠ 0 ∨ r.item ≠ zeroItem)) ∨ (r.kind ≠ 3 ∧ noSnap r = false) then 8
  else if r.kind = 1 then (if okNumber r.term = false ∨ r.fr < -1 ∨ 3 ≤ r.fr then 2 else 0)
  else if r.kind = 2 then (if okNumber r.index = false then 2 else r.item.check)
  else checkSnap r.sidx r.sterm r.mach
theorem noSnap_iff {r : Rcd} : noSnap r = true ↔ r.sidx = 0 ∧ r.sterm = 0 ∧ r.mach = zeroM := by
  obtain ⟨k, t, f, i, x, si, st, ⟨⟨now, ents⟩, next, clis⟩⟩ := r
  unfold noSnap zeroM zeroS
  simp only [Bool.and_eq_true, beq_iff_eq, List.isEmpty_iff, Mach.mk.injEq, Sto.mk.injEq]
  constructor
  · rintro ⟨⟨⟨⟨⟨a, b⟩, c⟩, d⟩, e⟩, f⟩; exact ⟨a, b, ⟨e, f⟩, c, d⟩
  · rintro ⟨a, b, ⟨e, f⟩, c, d⟩; exact ⟨⟨⟨⟨⟨a, b⟩, c⟩, d⟩, e⟩, f⟩
theorem rc_cases {r : Rcd} (h : checkRc r = 0) :
    (∃ t f, r = ⟨1, t, f, 0, zeroItem, 0, 0, zeroM⟩ ∧ okNumber t = true ∧ -1 ≤ f ∧ f < 3) ∨ (∃ i x, r = ⟨2, 0, 0, i, x, 0, 0, zeroM⟩ ∧ okNumber i = true ∧ x.check = 0) ∨ (∃ i t m, r = ⟨3, 0, 0, 0, zeroItem, i, t, m⟩ ∧ okNumber i = true ∧ okNumber t = true ∧ OkM m) := by
  unfold checkRc at h
  split at h
  · cases h
  · rename_i h1
    split at h
    · cases h
    · rename_i h2
      obtain ⟨k, t, f, i, x, si, st, m⟩ := r
      simp only at h h1 h2
      have hs : k ≠ 3 → si = 0 ∧ st = 0 ∧ m = zeroM := fun hk => by
        have : noSnap ⟨k, t, f, i, x, si, st, m⟩ = true := by
          cases hn : noSnap ⟨k, t, f, i, x, si, st, m⟩ with
          | true => rfl
          | false => exact absurd (.inr (.inr ⟨hk, hn⟩)) h2
        exact noSnap_iff.1 this
      have hi : k ≠ 2 → i = 0 ∧ x = zeroItem := fun hk => by
        refine ⟨?_, ?_⟩
        · by_cases e : i = 0; exact e; exact absurd (.inr (.inl ⟨hk, .inl e⟩)) h2
        · by_cases e : x = zeroItem; exact e; exact absurd (.inr (.inl ⟨hk, .inr e⟩)) h2
      have hm : k ≠ 1 → t = 0 ∧ f = 0 := fun hk => by
        refine ⟨?_, ?_⟩
        · by_cases e : t = 0; exact e; exact absurd (.inl ⟨hk, .inl e⟩) h2
        · by_cases e : f = 0; exact e; exact absurd (.inl ⟨hk, .inr e⟩) h2
      split at h
      · rename_i h3
        subst h3
        obtain ⟨rfl, rfl, rfl⟩ := hs (by omega)
        obtain ⟨rfl, rfl⟩ := hi (by omega)
        split at h
        · cases h
        · rename_i h4
          simp only [not_or, Bool.not_eq_false] at h4
          exact .inl ⟨t, f, rfl, h4.1, by omega, by omega⟩
      · rename_i h3
        obtain ⟨rfl, rfl⟩ := hm h3
        split at h
        · rename_i h4
          subst h4
          obtain ⟨rfl, rfl, rfl⟩ := hs (by omega)
          split at h
          · cases h
          · rename_i h5
            exact .inr (.inl ⟨i, x, rfl, by simpa using h5, h⟩)
        · rename_i h4
          have hk : k = 3 := by omega
          subst hk
          obtain ⟨rfl, rfl⟩ := hi (by omega)
          unfold checkSnap at h
          split at h
          · cases h
          · rename_i h5
            simp only [not_or, Bool.not_eq_false] at h5
            exact .inr (.inr ⟨si, st, m, rfl, h5.1, h5.2, checkM_iff.1 h⟩)
end Go.Proofs.YtpdcfljbabpakaaGreatDoor
set_option linter.unusedVariables false
set_option linter.unusedSimpArgs false
set_option maxRecDepth 100000
set_option maxHeartbeats 8000000
namespace Go.Proofs.YtpdcfljbabpakaaGreatDoor
open Go Go.RowKit Go.Proofs.AE
structure Lg where
  base : Int
  bt : Int
  items : List Item
def Lg.c (g : Lg) : List C := logC g.base g.bt g.items
def Lg.check (g : Lg) : Int := checkLog g.base g.bt g.items
def zeroLg : Lg := ⟨0, 0, []⟩
structure Dsk where
  term : Int
  fr : Int
  sidx : Int
  sterm : Int
  mach : Mach
  log : Lg
def Dsk.c (d : Dsk) : List C := [iC d.term, iC d.fr, iC d.sidx, iC d.sterm] ++ d.mach.c ++ d.log.c
def zeroD : Dsk := ⟨0, 0, 0, 0, zeroM, zeroLg⟩
def newD : Dsk := ⟨0, -1, 0, 0, newM, zeroLg⟩
def lineD (g : Lg) (place : Int) (x : Item) : Lg × Int :=
  if place ≤ g.base then (g, 0)
  else if g.base + g.items.length + 1 < place then (g, 10)
  else if checkLog g.base g.bt (g.items.take (place - g.base - 1).toNat ++ [x]) ≠ 0 then (g, 10)
  else (⟨g.base, g.bt, g.items.take (place - g.base - 1).toNat ++ [x]⟩, 0)
def restD (g : Lg) (i t : Int) : Lg :=
  if termErr g.base g.items.length i = 0 ∧ termAt g.base g.bt g.items i = t then ⟨i, t, g.items.drop (i - g.base).toNat⟩ else ⟨i, t, []⟩
def foldStep (d : Dsk) (r : Rcd) : Dsk × Int :=
  if checkRc r ≠ 0 then (zeroD, checkRc r)
  else if r.kind = 1 then ({ d with term := r.term, fr := r.fr }, 0)
  else if r.kind = 2 then (if (lineD d.log r.index r.item).2 ≠ 0 then (zeroD, (lineD d.log r.index r.item).2) else ({ d with log := (lineD d.log r.index r.item).1 }, 0))
  else if d.sidx < r.sidx then ({ d with sidx := r.sidx, sterm := r.sterm, mach := r.mach, log := restD d.log r.sidx r.sterm }, 0)
  else (d, 0)
def foldGo (d : Dsk) : List Rcd → Dsk × Int
  | [] => (d, 0)
  | r :: l => if (foldStep d r).2 ≠ 0 then (foldStep d r) else foldGo (foldStep d r).1 l
def foldD (l : List Rcd) : Dsk × Int := foldGo newD l
end Go.Proofs.YtpdcfljbabpakaaGreatDoor
set_option linter.unusedVariables false
set_option linter.unusedSimpArgs false
set_option maxRecDepth 100000
set_option maxHeartbeats 8000000
namespace Go.Proofs.YtpdcfljbabpakaaGreatDoor
open Go Go.RowKit Go.Proofs.AE
def lastT (t : Int) (a : List Item) : Int := match a.getLast? with | some y => y.term | none => t
def lastM (m : Int) (a : List Item) : Int := match a.getLast? with | some y => y.time | none => m
theorem lastT_cons (t : Int) (x : Item) (a : List Item) : lastT t (x :: a) = lastT x.term a := by
  unfold lastT; cases a with
  | nil => rfl
  | cons y a => rw [List.getLast?_cons_cons]; simp [List.getLast?_cons]
theorem lastM_cons (t : Int) (x : Item) (a : List Item) : lastM t (x :: a) = lastM x.time a := by
  unfold lastM; cases a with
  | nil => rfl
  | cons y a => rw [List.getLast?_cons_cons]; simp [List.getLast?_cons]
theorem chk_app : ∀ (a b : List Item) (t m : Int), chk (a ++ b) t m = (chk a t m && chk b (lastT t a) (lastM m a))
  | [], b, t, m => rfl
  | x :: a, b, t, m => by
    have ih := chk_app a b x.term x.time
    simp only [List.cons_append, chk, ih, lastT_cons, lastM_cons, Bool.and_assoc]
def markRc (t f : Int) : Rcd := ⟨1, t, f, 0, zeroItem, 0, 0, zeroM⟩
theorem markRc_ok {t f : Int} (ht : 1 ≤ t ∧ t ≤ 1048576) (hf : -1 ≤ f ∧ f < 3) : checkRc (markRc t f) = 0 := by
  have hn : okNumber t = true := by unfold okNumber; simp; omega
  have hs : noSnap (markRc t f) = true := rfl
  unfold checkRc
  rw [hs]
  simp [markRc, hn]
  omega
def loadRc (i t : Int) (m : Mach) : Rcd := ⟨3, 0, 0, 0, zeroItem, i, t, m⟩
theorem loadRc_ok {i t : Int} {m : Mach} (hi : 1 ≤ i ∧ i ≤ 1048576) (ht : 1 ≤ t ∧ t ≤ 1048576) (hm : OkM m) : checkRc (loadRc i t m) = 0 := by
  have h1 : okNumber i = true := by unfold okNumber; simp; omega
  have h2 : okNumber t = true := by unfold okNumber; simp; omega
  unfold checkRc checkSnap
  simp [loadRc, h1, h2, checkM_iff.2 hm]
structure OkD (d : Dsk) : Prop where
  log : d.log.check = 0
  mach : OkM d.mach
theorem newM_ok : OkM newM := by
  refine checkM_iff.1 ?_
  decide
theorem newD_ok : OkD newD := ⟨by decide, newM_ok⟩
theorem chk_drop {x : List Item} {t m : Int} (h : chk x t m = true) (k : Nat) {t' : Int} (ht : ∀ y, (x.take k).getLast? = some y → t' ≤ y.term) (hk : 0 < k) (hl : k ≤ x.length) : chk (x.drop k) t' 0 = true := by
  rw [← List.take_append_drop k x, chk_app] at h
  simp only [Bool.and_eq_true] at h
  obtain ⟨y, hy⟩ : ∃ y, (x.take k).getLast? = some y := by
    cases hq : (x.take k).getLast? with
    | some y => exact ⟨y, rfl⟩
    | none =>
      rw [List.getLast?_eq_none_iff] at hq
      have := congrArg List.length hq
      rw [List.length_take, List.length_nil] at this
      omega
  have h2 := h.2
  have e1 : lastT t (x.take k) = y.term := by unfold lastT; rw [hy]
  have e2 : lastM m (x.take k) = y.time := by unfold lastM; rw [hy]
  rw [e1, e2] at h2
  have ht := ht y hy
  cases hd : x.drop k with
  | nil => rfl
  | cons z l =>
    rw [hd] at h2
    simp only [chk, Bool.and_eq_true, beq_iff_eq, decide_eq_true_eq] at h2 ⊢
    have hym : y ∈ x := List.mem_of_mem_take (List.mem_of_getLast? hy)
    obtain ⟨a, b, c, e⟩ := h2
    obtain ⟨_, _, _, d2⟩ : 1 ≤ z.term ∧ z.term ≤ 1048576 ∧ 0 ≤ z.time ∧ z.time ≤ 1073741824 := by
      have := item_ok a; exact ⟨this.1, this.2.1, this.2.2.1, this.2.2.2.1⟩
    exact ⟨a, by omega, by omega, e⟩
theorem checkLog_iff {base bt : Int} {x : List Item} : checkLog base bt x = 0 ↔ (0 ≤ base ∧ 0 ≤ bt ∧ bt ≤ 1048576 ∧ (base = 0 ↔ bt = 0) ∧ x.length ≤ 200 ∧ base ≤ 1048576 - x.length) ∧ chk x bt 0 = true := by
  unfold checkLog headOk
  constructor
  · intro h
    split at h
    · rename_i hh
      split at h
      · rename_i hc
        simp at hh
        refine ⟨⟨by omega, by omega, by omega, ?_, by omega, by omega⟩, hc⟩
        have := hh.2.2.2.1
        constructor <;> intro h <;> simp_all
      · cases h
    · cases h
  · rintro ⟨⟨h1, h2, h3, h4, h5, h6⟩, h7⟩
    rw [if_pos ?_, if_pos h7]
    simp
    refine ⟨by omega, by omega, by omega, ?_, by omega, by omega⟩
    rw [Bool.eq_iff_iff]; simpa using h4
theorem restD_ok {g : Lg} (h : g.check = 0) {i t : Int} (hi : 1 ≤ i ∧ i ≤ 1048576) (ht : 1 ≤ t ∧ t ≤ 1048576) : (restD g i t).check = 0 := by
  unfold Lg.check at h ⊢
  obtain ⟨⟨h1, h2, h3, h4, h5, h6⟩, h7⟩ := checkLog_iff.1 h
  unfold restD
  split
  · rename_i hc
    obtain ⟨c1, c2⟩ := hc
    have hr := termErr_range c1
    refine checkLog_iff.2 ⟨⟨by show 0 ≤ i; omega, by show 0 ≤ t; omega, by show t ≤ _; omega, by show i = 0 ↔ t = 0; omega, by simp; omega, by show i ≤ _; simp; omega⟩, ?_⟩
    show chk (g.items.drop (i - g.base).toNat) t 0 = true
    by_cases h0 : i = g.base
    · rw [h0] at c2 ⊢
      have : t = g.bt := by rw [← c2]; unfold termAt; rw [if_neg (by omega), if_pos rfl]
      rw [this]
      simpa using h7
    · refine chk_drop h7 _ ?_ (by omega) (by omega)
      intro y hy
      unfold termAt at c2
      rw [if_neg (by omega), if_neg h0, if_neg (by omega)] at c2
      have e : (i - g.base - 1).toNat = (i - g.base).toNat - 1 := by omega
      rw [List.getLast?_eq_getElem?, List.length_take, Nat.min_eq_left (by omega), List.getElem?_take, if_pos (by omega), ← e] at hy
      rw [hy] at c2
      simp only at c2
      omega
  · refine checkLog_iff.2 ⟨⟨by show 0 ≤ i; omega, by show 0 ≤ t; omega, by show t ≤ _; omega, by show i = 0 ↔ t = 0; omega, by simp, by show i ≤ _; simp; omega⟩, rfl⟩
theorem lineD_ok {g : Lg} (h : g.check = 0) (p : Int) (x : Item) : (lineD g p x).1.check = 0 := by
  unfold lineD
  split
  · exact h
  · split
    · exact h
    · split
      · exact h
      · rename_i h3
        exact Classical.not_not.1 h3
theorem step_ok {d : Dsk} (h : OkD d) (r : Rcd) (he : (foldStep d r).2 = 0) : OkD (foldStep d r).1 := by
  unfold foldStep at he ⊢
  by_cases h1 : checkRc r ≠ 0
  · rw [if_pos h1] at he; exact absurd he h1
  · rw [if_neg h1] at he ⊢
    have hr := Classical.not_not.1 h1
    by_cases h2 : r.kind = 1
    · rw [if_pos h2]; exact ⟨h.log, h.mach⟩
    · rw [if_neg h2] at he ⊢
      by_cases h3 : r.kind = 2
      · rw [if_pos h3] at he ⊢
        by_cases h4 : (lineD d.log r.index r.item).2 ≠ 0
        · rw [if_pos h4] at he; exact absurd he h4
        · rw [if_neg h4]; exact ⟨lineD_ok h.log _ _, h.mach⟩
      · rw [if_neg h3]
        split
        · rcases rc_cases hr with ⟨t, f, rfl, _⟩ | ⟨i, x, rfl, _⟩ | ⟨i, t, m, rfl, a, b, c⟩
          · exact absurd rfl h2
          · exact absurd rfl h3
          · unfold okNumber at a b
            simp at a b
            exact ⟨restD_ok h.log (by omega) (by omega), c⟩
        · exact h
end Go.Proofs.YtpdcfljbabpakaaGreatDoor
set_option linter.unusedVariables false
set_option linter.unusedSimpArgs false
set_option maxRecDepth 100000
set_option maxHeartbeats 8000000
namespace Go.Proofs.YtpdcfljbabpakaaGreatDoor
open Go Go.RowKit Go.Proofs.AE
variable {G : Nat → AV}
theorem weak_thaw {k : Nat} {s : S} (b o e m : Nat) {t : TypeId} {cs : List C} (h1 : s.hp[b]? = some (some (.box t cs))) (h2 : cs[o]? = some .nil) (hm : 0 < m) :
    Weak k s { s with hp := s.hp.set b (some (.box t (cs.set o (.ar s.hp.length)))) ++ [some (.arr e m [])] } :=
  ⟨rfl, fun n w ok μ a hst => ⟨ok, _, hst.step (hr_thaw hst.hr h1 h2 hm), (hr_thaw hst.hr h1 h2 hm).far⟩⟩
def tstE (now : Int) (p : Option Ent) (e : Ent) : Bool := !okField e.key || checkV e.val != 0 || (match p with | some p => !decide (cmpB p.key e.key < 0) | none => false) || (e.till != 0 && (decide (e.till ≤ now) || decide (1073741824 < e.till)))
def chkE (now : Int) : Option Ent → List Ent → Int
  | _, [] => 0
  | p, e :: r => if tstE now p e = true then 13 else chkE now (some e) r
theorem chkE_eq (now : Int) : ∀ (l : List Ent) (p : Option Ent), chkE now p l = if l.any (entBad now) = true then 13 else if rising bE ((match p with | some p => [p] | none => []) ++ l) = true then 0 else 13
  | [], p => by cases p <;> rfl
  | e :: r, p => by
    have ih := chkE_eq now r (some e)
    unfold chkE tstE
    rw [ih]
    have hb : entBad now e = (!okField e.key || checkV e.val != 0 || (e.till != 0 && (decide (e.till ≤ now) || decide (1073741824 < e.till)))) := rfl
    cases p with
    | none =>
      simp only [List.any_cons, hb, List.nil_append, List.singleton_append]
      cases (!okField e.key || checkV e.val != 0) <;> cases (e.till != 0 && (decide (e.till ≤ now) || decide (1073741824 < e.till))) <;> simp
    | some p =>
      have hr : rising bE ([p] ++ e :: r) = (decide (bE p e < 0) && rising bE (e :: r)) := rfl
      have hr2 : rising bE (p :: e :: r) = (decide (bE p e < 0) && rising bE (e :: r)) := rfl
      simp only [List.any_cons, hb, hr, List.singleton_append]
      have hd : decide (cmpB p.key e.key < 0) = decide (bE p e < 0) := rfl
      rw [hd]
      cases (!okField e.key || checkV e.val != 0) <;> cases (e.till != 0 && (decide (e.till ≤ now) || decide (1073741824 < e.till))) <;> cases hbe : decide (bE p e < 0) <;> simp [hr2, hbe]
theorem okField_alt (s : ByteArray) : okField s = !(decide ((s.size : Int) < 1) || decide (12 < (s.size : Int))) := by
  unfold okField
  rw [Bool.eq_iff_iff]
  simp <;> omega
def prevE (l : List Ent) (i : Nat) : Option Ent := if i = 0 then none else l[i - 1]?
theorem chkE_drop (now : Int) {l : List Ent} {i : Nat} {e : Ent} (h : l[i]? = some e) : chkE now (prevE l i) (l.drop i) = if tstE now (prevE l i) e = true then 13 else chkE now (prevE l (i + 1)) (l.drop (i + 1)) := by
  have hl := (List.getElem?_eq_some_iff.1 h).1
  have hx := (List.getElem?_eq_some_iff.1 h).2
  rw [List.drop_eq_getElem_cons hl, hx]
  have hp : prevE l (i + 1) = some e := by unfold prevE; simpa using h
  rw [hp]
  rfl
theorem checkS_chk (s : Sto) : checkS s = if s.now < 0 ∨ 1073741824 < s.now ∨ 12 < s.ents.length then 13 else chkE s.now none s.ents := by
  unfold checkS
  rw [chkE_eq]
  rfl
theorem checkS_c (s : Sto) (hs : s.Small) : PCall Tryz.prog G 77 [.agg s.c] (iV (checkS s)) := by
  obtain ⟨now, l⟩ := s
  obtain ⟨s1, s2⟩ := hs
  simp only at s1 s2
  rw [checkS_chk]
  simp only [Sto.c]
  by_cases hb : now < 0 ∨ 1073741824 < now ∨ 12 < l.length
  · rw [if_pos hb]
    refine pcallc mixed Tryz.func77 ac_store_Check ?_
    repeat' (first | (with_reducible first | refine Cn (fun h => ?_) fun h => ?_ | refine And.intro ?_ ?_ | refine wR ?_ | exact wr _ _ | refine wa ?_ | apply awp_join) | (with_reducible refine CallZ.z ?_) | simp -dsimp [go_sem])
    all_goals (exfalso; clear s2; simp at *; omega)
  · rw [if_neg hb]
    have b1 : decide (now < 0) = false := by simp; omega
    have b2 : decide (1073741824 < now) = false := by simp; omega
    have b3 : decide (12 < (l.length : Int)) = false := by simp; omega
    refine pcallc mixed Tryz.func77 ac_store_Check ?_
    repeat' (first | (with_reducible first | refine Cn (fun h => ?_) fun h => ?_ | refine And.intro ?_ ?_ | refine wR ?_ | exact wr _ _ | refine wa ?_ | apply awp_join) | (with_reducible refine CallZ.z ?_) | simp -dsimp [go_sem, b1, b2, b3])
    refine awp_loop (fun i : Nat => ⟨[(1, .one (.ptr 0 0)), (20, .one (.v (.sl (eR l)))), (21, iV l.length), (22, iV i)], G, [some (.box 25 [iC now, .v (.sl (eR l))])]⟩) (fun i => i ≤ l.length ∧ chkE now none l = chkE now (prevE l i) (l.drop i)) (fun i => l.length - i) 0 (weak_auto ?_) ⟨Nat.zero_le _, rfl⟩ ?_
    · simp -dsimp [go_sem]
    · rintro i ⟨hi, hx⟩
      rw [hx]
      by_cases hlt : i < l.length
      · obtain ⟨e, he⟩ : ∃ e, l[i]? = some e := ⟨_, List.getElem?_eq_getElem hlt⟩
        have e4 : IntKind.i64.wrap ((i : Int) + 1) = (i : Int) + 1 := IntWalk.i64_in _ (by omega)
        have q1 : decide (i < l.length) = true := by simpa using hlt
        have hcv := checkV_c (G := G) e.val (s2 e (List.mem_of_getElem? he))
        rw [chkE_drop now he]
        obtain ⟨T, hT⟩ : ∃ T, tstE now (prevE l i) e = T := ⟨_, rfl⟩
        have hT' := hT
        unfold tstE at hT'
        rw [okField_alt] at hT'
        obtain ⟨N, hN⟩ : ∃ N, chkE now (prevE l (i + 1)) (l.drop (i + 1)) = N := ⟨_, rfl⟩
        rw [hT, hN]
        clear hT
        obtain ⟨V, hV⟩ : ∃ V, checkV e.val = V := ⟨_, rfl⟩
        rw [hV] at hcv hT'
        obtain ⟨key, ⟨vk, vt, vn, vp, vi, vs⟩, till⟩ := e
        simp only [Val.c] at hcv
        simp only at hT'
        have hag : i + 1 ≤ l.length ∧ N = chkE now (prevE l (i + 1)) (l.drop (i + 1)) := ⟨hlt, hN.symm⟩
        by_cases h0 : i = 0
        · have q2 : decide (0 < i) = false := by simp; omega
          have hp : prevE l i = none := by unfold prevE; rw [if_pos h0]
          rw [hp] at hT'
          simp only at hT'
          repeat' (first | (with_reducible first | refine Cn (fun h => ?_) fun h => ?_ | refine And.intro ?_ ?_ | refine wR ?_ | exact wr _ _ | refine wa ?_ | apply awp_join | refine q hcv ?_ | refine qd hcv ?_ | refine qz hcv ?_) | (with_reducible refine CallZ.z ?_) | simp -dsimp [go_sem, he, Ent.row, e4, q1, q2])
          all_goals first
            | omega
            | (have hTt : T = true := by (rw [← hT']; simp [*])
               simp [hTt]; done)
            | (have hTf : T = false := by (rw [← hT']; simp [*])
               rw [hTf]
               refine Again.auto (i + 1) ?_ ?_ ?_
               · simp -dsimp [go_sem]
               · exact hag
               · show l.length - (i + 1) < l.length - i; omega)
        · obtain ⟨j, hj⟩ : ∃ j, i = j + 1 := ⟨i - 1, by omega⟩
          have q2 : decide (0 < i) = true := by simp; omega
          obtain ⟨p, hpj⟩ : ∃ p, l[j]? = some p := ⟨_, List.getElem?_eq_getElem (by omega)⟩
          have hp : prevE l i = some p := by unfold prevE; rw [if_neg h0, hj]; simpa using hpj
          rw [hp] at hT'
          have e5 : IntKind.i64.wrap ((i : Int) - 1) = (j : Int) := by rw [IntWalk.i64_in _ (by omega)]; omega
          have e6 : lessB p.key key = decide (cmpB p.key key < 0) := lessB_eq _ _
          obtain ⟨pkey, ⟨wk, wt, wn, wp, wi, ws⟩, ptill⟩ := p
          simp only at hT' e6
          repeat' (first | (with_reducible first | refine Cn (fun h => ?_) fun h => ?_ | refine And.intro ?_ ?_ | refine wR ?_ | exact wr _ _ | refine wa ?_ | apply awp_join | refine q hcv ?_ | refine qd hcv ?_ | refine qz hcv ?_) | (with_reducible refine CallZ.z ?_) | simp -dsimp [go_sem, he, hpj, Ent.row, e4, e5, q1, q2, e6])
          all_goals first
            | omega
            | (have hTt : T = true := by (rw [← hT']; simp [*])
               simp [hTt]; done)
            | (have hTf : T = false := by (rw [← hT']; simp [*])
               rw [hTf]
               refine Again.auto (i + 1) ?_ ?_ ?_
               · simp -dsimp [go_sem]
               · exact hag
               · show l.length - (i + 1) < l.length - i; omega)
      · have hn : l.drop i = [] := List.drop_eq_nil_of_le (by omega)
        have q1 : decide (i < l.length) = false := by simpa using hlt
        rw [hn]
        unfold chkE
        repeat' (first | (with_reducible first | refine Cn (fun h => ?_) fun h => ?_ | refine And.intro ?_ ?_ | refine wR ?_ | exact wr _ _ | refine wa ?_ | apply awp_join) | (with_reducible refine CallZ.z ?_) | simp -dsimp [go_sem, q1])
end Go.Proofs.YtpdcfljbabpakaaGreatDoor
set_option linter.unusedVariables false
set_option linter.unusedSimpArgs false
set_option maxRecDepth 100000
set_option maxHeartbeats 8000000
namespace Go.Proofs.YtpdcfljbabpakaaGreatDoor
open Go Go.RowKit Go.Proofs.AE
variable {G : Nat → AV}
theorem ul_str (l : List ByteArray) : UL 1 (strRows l) := by
  intro r hr
  obtain ⟨y, _, rfl⟩ := List.mem_map.1 hr
  rfl
theorem checkR_c (r : Rep) : PCall Tryz.prog G 78 [.agg r.c] (iV (checkR r)) := checkReply_c r.code r.text r.n r.list
theorem checkCl_c (c : Cal) : PCall Tryz.prog G 79 [.agg c.c] (iV (checkCl c)) := checkCall_c c.client c.seq c.cmd.kind c.cmd.key c.cmd.field c.cmd.text c.cmd.n
def tstC (next now : Int) (p : Option Cli) (x : Cli) : Bool := decide (x.id < 1) || decide (next ≤ x.id) || (match p with | some p => decide (x.id ≤ p.id) | none => false) || decide (x.seq < 0) || decide (1048576 < x.seq) || decide (x.time < 0) || decide (now < x.time) || (checkR x.reply != 0)
def chkC (next now : Int) : Option Cli → List Cli → Int
  | _, [] => 0
  | p, x :: r => if tstC next now p x = true then 13 else chkC next now (some x) r
theorem tstC_eq (next now : Int) (p : Option Cli) (x : Cli) : tstC next now p x = (badC next now x || (match p with | some p => !decide (cI p x < 0) | none => false)) := by
  unfold tstC badC cI
  cases p with
  | none => simp
  | some p =>
    have : decide (x.id ≤ p.id) = !decide (p.id - x.id < 0) := by
      by_cases h : x.id ≤ p.id
      · have h2 : ¬ p.id - x.id < 0 := by omega
        simp [h, h2]
      · have h2 : p.id - x.id < 0 := by omega
        simp [h, h2]
    simp only [this]
    generalize (!decide (p.id - x.id < 0)) = b
    cases b <;> simp
theorem chkC_eq (next now : Int) : ∀ (l : List Cli) (p : Option Cli), chkC next now p l = if l.any (badC next now) = true then 13 else if rising cI ((match p with | some p => [p] | none => []) ++ l) = true then 0 else 13
  | [], p => by cases p <;> rfl
  | x :: r, p => by
    have ih := chkC_eq next now r (some x)
    unfold chkC
    rw [ih, tstC_eq]
    cases p with
    | none =>
      obtain ⟨b, hb⟩ : ∃ b, badC next now x = b := ⟨_, rfl⟩
      rw [List.any_cons, hb]
      cases b <;> simp
    | some p =>
      have hr : rising cI ([p] ++ x :: r) = (decide (cI p x < 0) && rising cI (x :: r)) := rfl
      obtain ⟨b, hb⟩ : ∃ b, badC next now x = b := ⟨_, rfl⟩
      obtain ⟨d, hd⟩ : ∃ d, decide (cI p x < 0) = d := ⟨_, rfl⟩
      simp only [List.any_cons, hr, hb, hd]
      cases b <;> cases d <;> simp
def prevC (l : List Cli) (i : Nat) : Option Cli := if i = 0 then none else l[i - 1]?
theorem chkC_drop (next now : Int) {l : List Cli} {i : Nat} {x : Cli} (h : l[i]? = some x) : chkC next now (prevC l i) (l.drop i) = if tstC next now (prevC l i) x = true then 13 else chkC next now (prevC l (i + 1)) (l.drop (i + 1)) := by
  have hl := (List.getElem?_eq_some_iff.1 h).1
  have hx := (List.getElem?_eq_some_iff.1 h).2
  rw [List.drop_eq_getElem_cons hl, hx]
  have hp : prevC l (i + 1) = some x := by unfold prevC; simpa using h
  rw [hp]
  rfl
theorem checkM_chk (m : Mach) : checkM m = if checkS m.sto ≠ 0 ∨ m.next < 1 ∨ 1048577 < m.next ∨ 4 < m.clis.length then 13 else chkC m.next m.sto.now none m.clis := by
  unfold checkM
  rw [chkC_eq]
  rfl
theorem checkM_c (m : Mach) (hs : m.sto.Small) (hl : m.clis.length ≤ 1000000) : PCall Tryz.prog G 41 [.agg m.c] (iV (checkM m)) := by
  have hcs := checkS_c (G := G) m.sto hs
  rw [checkM_chk]
  obtain ⟨V, hV⟩ : ∃ V, checkS m.sto = V := ⟨_, rfl⟩
  rw [hV] at hcs ⊢
  obtain ⟨⟨now, ents⟩, next, l⟩ := m
  simp only at hl
  simp only [Mach.c, Sto.c] at hcs ⊢
  by_cases hb : V ≠ 0 ∨ next < 1 ∨ 1048577 < next ∨ 4 < l.length
  · rw [if_pos hb]
    by_cases b0 : V ≠ 0
    · have q0 : (V != 0) = true := by simpa using b0
      refine pcallc mixed Tryz.func41 ac_client_Check ?_
      repeat' (first | (with_reducible first | refine Cn (fun h => ?_) fun h => ?_ | refine And.intro ?_ ?_ | refine wR ?_ | exact wr _ _ | refine wa ?_ | apply awp_join | refine q hcs ?_ | refine qd hcs ?_ | refine qz hcs ?_) | (with_reducible refine CallZ.z ?_) | simp -dsimp [go_sem, q0])
    · have q0 : (V != 0) = false := by simpa using b0
      by_cases b1 : next < 1
      · have q1 : decide (next < 1) = true := by simpa using b1
        refine pcallc mixed Tryz.func41 ac_client_Check ?_
        repeat' (first | (with_reducible first | refine Cn (fun h => ?_) fun h => ?_ | refine And.intro ?_ ?_ | refine wR ?_ | exact wr _ _ | refine wa ?_ | apply awp_join | refine q hcs ?_ | refine qd hcs ?_ | refine qz hcs ?_) | (with_reducible refine CallZ.z ?_) | simp -dsimp [go_sem, q0, q1])
      · have q1 : decide (next < 1) = false := by simpa using b1
        by_cases b2 : 1048577 < next
        · have q2 : decide (1048577 < next) = true := by simpa using b2
          refine pcallc mixed Tryz.func41 ac_client_Check ?_
          repeat' (first | (with_reducible first | refine Cn (fun h => ?_) fun h => ?_ | refine And.intro ?_ ?_ | refine wR ?_ | exact wr _ _ | refine wa ?_ | apply awp_join | refine q hcs ?_ | refine qd hcs ?_ | refine qz hcs ?_) | (with_reducible refine CallZ.z ?_) | simp -dsimp [go_sem, q0, q1, q2])
        · have q2 : decide (1048577 < next) = false := by simpa using b2
          have q3 : decide (4 < (l.length : Int)) = true := by simp; omega
          refine pcallc mixed Tryz.func41 ac_client_Check ?_
          repeat' (first | (with_reducible first | refine Cn (fun h => ?_) fun h => ?_ | refine And.intro ?_ ?_ | refine wR ?_ | exact wr _ _ | refine wa ?_ | apply awp_join | refine q hcs ?_ | refine qd hcs ?_ | refine qz hcs ?_) | (with_reducible refine CallZ.z ?_) | simp -dsimp [go_sem, q0, q1, q2, q3])
  · rw [if_neg hb]
    simp only [not_or, Classical.not_not] at hb
    have q0 : (V != 0) = false := by simpa using hb.1
    have q1 : decide (next < 1) = false := by simp; omega
    have q2 : decide (1048577 < next) = false := by simp; omega
    have q3 : decide (4 < (l.length : Int)) = false := by simp; omega
    refine pcallc mixed Tryz.func41 ac_client_Check ?_
    repeat' (first | (with_reducible first | refine Cn (fun h => ?_) fun h => ?_ | refine And.intro ?_ ?_ | refine wR ?_ | exact wr _ _ | refine wa ?_ | apply awp_join | refine q hcs ?_ | refine qd hcs ?_ | refine qz hcs ?_) | (with_reducible refine CallZ.z ?_) | simp -dsimp [go_sem, q0, q1, q2, q3])
    refine awp_loop (fun i : Nat => ⟨[(1, .one (.ptr 0 0)), (26, .one (.v (.sl (clR l)))), (27, iV l.length), (28, iV i)], G, [some (.box 28 [iC now, .v (.sl (eR ents)), iC next, .v (.sl (clR l))])]⟩) (fun i => i ≤ l.length ∧ chkC next now none l = chkC next now (prevC l i) (l.drop i)) (fun i => l.length - i) 0 (weak_auto ?_) ⟨Nat.zero_le _, rfl⟩ ?_
    · simp -dsimp [go_sem]
    · rintro i ⟨hi, hx⟩
      rw [hx]
      by_cases hlt : i < l.length
      · obtain ⟨x, he⟩ : ∃ x, l[i]? = some x := ⟨_, List.getElem?_eq_getElem hlt⟩
        have e4 : IntKind.i64.wrap ((i : Int) + 1) = (i : Int) + 1 := IntWalk.i64_in _ (by omega)
        have q4 : decide (i < l.length) = true := by simpa using hlt
        have hcr := checkR_c (G := G) x.reply
        rw [chkC_drop next now he]
        obtain ⟨T, hT⟩ : ∃ T, tstC next now (prevC l i) x = T := ⟨_, rfl⟩
        have hT' := hT
        unfold tstC at hT'
        obtain ⟨N, hN⟩ : ∃ N, chkC next now (prevC l (i + 1)) (l.drop (i + 1)) = N := ⟨_, rfl⟩
        rw [hT, hN]
        clear hT
        obtain ⟨R, hR⟩ : ∃ R, checkR x.reply = R := ⟨_, rfl⟩
        rw [hR] at hcr hT'
        obtain ⟨id, seq, time, ⟨rc, rt, rn, rl⟩⟩ := x
        simp only [Rep.c] at hcr
        simp only at hT'
        have hag : i + 1 ≤ l.length ∧ N = chkC next now (prevC l (i + 1)) (l.drop (i + 1)) := ⟨hlt, hN.symm⟩
        by_cases h0 : i = 0
        · have q5 : decide (0 < i) = false := by simp; omega
          have hp : prevC l i = none := by unfold prevC; rw [if_pos h0]
          rw [hp] at hT'
          simp only at hT'
          repeat' (first | (with_reducible first | refine Cn (fun h => ?_) fun h => ?_ | refine And.intro ?_ ?_ | refine wR ?_ | exact wr _ _ | refine wa ?_ | apply awp_join | refine q hcr ?_ | refine qd hcr ?_ | refine qz hcr ?_) | (with_reducible refine CallZ.z ?_) | simp -dsimp [go_sem, he, Cli.row, e4, q4, q5])
          all_goals first
            | omega
            | (have hTt : T = true := by (rw [← hT']; simp [*])
               simp [hTt]; done)
            | (have hTf : T = false := by (rw [← hT']; simp [*])
               rw [hTf]
               refine Again.auto (i + 1) ?_ ?_ ?_
               · simp -dsimp [go_sem]
               · exact hag
               · show l.length - (i + 1) < l.length - i; omega)
            | trace_state
        · have q5 : decide (0 < i) = true := by simp; omega
          obtain ⟨j, hj⟩ : ∃ j, i = j + 1 := ⟨i - 1, by omega⟩
          obtain ⟨p, hpj⟩ : ∃ p, l[j]? = some p := ⟨_, List.getElem?_eq_getElem (by omega)⟩
          have hp : prevC l i = some p := by unfold prevC; rw [if_neg h0, hj]; simpa using hpj
          rw [hp] at hT'
          have e5 : IntKind.i64.wrap ((i : Int) - 1) = (j : Int) := by rw [IntWalk.i64_in _ (by omega)]; omega
          obtain ⟨pid, pseq, ptime, ⟨pc, pt, pn, pl⟩⟩ := p
          simp only at hT'
          repeat' (first | (with_reducible first | refine Cn (fun h => ?_) fun h => ?_ | refine And.intro ?_ ?_ | refine wR ?_ | exact wr _ _ | refine wa ?_ | apply awp_join | refine q hcr ?_ | refine qd hcr ?_ | refine qz hcr ?_) | (with_reducible refine CallZ.z ?_) | simp -dsimp [go_sem, he, hpj, Cli.row, e4, e5, q4, q5])
          all_goals first
            | omega
            | (have hTt : T = true := by (rw [← hT']; simp [*])
               simp [hTt]; done)
            | (have hTf : T = false := by (rw [← hT']; simp [*])
               rw [hTf]
               refine Again.auto (i + 1) ?_ ?_ ?_
               · simp -dsimp [go_sem]
               · exact hag
               · show l.length - (i + 1) < l.length - i; omega)
            | trace_state
      · have hn : l.drop i = [] := List.drop_eq_nil_of_le (by omega)
        have q4 : decide (i < l.length) = false := by simpa using hlt
        rw [hn]
        unfold chkC
        repeat' (first | (with_reducible first | refine Cn (fun h => ?_) fun h => ?_ | refine And.intro ?_ ?_ | refine wR ?_ | exact wr _ _ | refine wa ?_ | apply awp_join) | (with_reducible refine CallZ.z ?_) | simp -dsimp [go_sem, q4])
end Go.Proofs.YtpdcfljbabpakaaGreatDoor
set_option linter.unusedVariables false
set_option linter.unusedSimpArgs false
set_option maxRecDepth 100000
set_option maxHeartbeats 8000000
namespace Go.Proofs.YtpdcfljbabpakaaGreatDoor
open Go Go.RowKit Go.Proofs.AE
variable {G : Nat → AV}
def Rcd.c (r : Rcd) : List C := [iC r.kind, iC r.term, iC r.fr, iC r.index, iC r.item.term, iC r.item.time, bC r.item.nop, iC r.item.client, iC r.item.seq, iC r.item.k, sC r.item.key, sC r.item.field, sC r.item.text, iC r.item.n, iC r.sidx, iC r.sterm, iC r.mach.sto.now, .v (.sl (eR r.mach.sto.ents)), iC r.mach.next, .v (.sl (clR r.mach.clis))]
def Rcd.row (r : Rcd) : List V := [iL r.kind, iL r.term, iL r.fr, iL r.index, iL r.item.term, iL r.item.time, .lit (.bool r.item.nop), iL r.item.client, iL r.item.seq, iL r.item.k, sL r.item.key, sL r.item.field, sL r.item.text, iL r.item.n, iL r.sidx, iL r.sterm, iL r.mach.sto.now, .sl (eR r.mach.sto.ents), iL r.mach.next, .sl (clR r.mach.clis)]
theorem tnumber_c (n : Int) : PCall Tryz.prog G 40 [iV n] (bV (okNumber n)) := by
  refine pcallc mixed Tryz.func40 ac_tape_number ?_
  unfold okNumber
  repeat' (first | (with_reducible first | refine Cn (fun h => ?_) fun h => ?_ | refine And.intro ?_ ?_ | refine wR ?_ | exact wr _ _ | refine wa ?_ | apply awp_join) | (with_reducible refine CallZ.z ?_) | simp -dsimp [go_sem])
  all_goals first | (simp_all; done) | (intro hh; simp_all)
def noSnapS (i t : Int) (m : Mach) : Bool := i == 0 && (t == 0 && (m.next == 0 && ((m.clis.length : Int) == 0 && (m.sto.now == 0 && (m.sto.ents.length : Int) == 0))))
theorem noSnap_c (i t : Int) (m : Mach) : PCall Tryz.prog G 42 [.agg ([iC i, iC t] ++ m.c)] (bV (noSnapS i t m)) := by
  obtain ⟨⟨now, es⟩, next, cs⟩ := m
  have h1 : (eR es).length = es.length := by simp
  have h2 : (clR cs).length = cs.length := by simp
  unfold noSnapS
  simp only [Mach.c, List.cons_append, List.nil_append]
  refine pcallc mixed Tryz.func42 ac_tape_noSnap ?_
  repeat' (first | (with_reducible first | refine Cn (fun h => ?_) fun h => ?_ | refine And.intro ?_ ?_ | refine wR ?_ | exact wr _ _ | refine wa ?_ | apply awp_join) | (with_reducible refine CallZ.z ?_) | simp -dsimp [go_sem, h1, h2])
  all_goals first | (simp_all; done) | trace_state
theorem len_empty {α : Type} (l : List α) : ((l.length : Int) == 0) = l.isEmpty := by
  cases l with
  | nil => rfl
  | cons a l => rw [List.isEmpty_cons, beq_eq_false_iff_ne, List.length_cons]; omega
theorem noSnapS_eq (r : Rcd) : noSnapS r.sidx r.sterm r.mach = noSnap r := by
  unfold noSnapS noSnap
  have h1 : ((r.mach.clis.length : Int) == 0) = r.mach.clis.isEmpty := len_empty _
  have h2 : ((r.mach.sto.ents.length : Int) == 0) = r.mach.sto.ents.isEmpty := len_empty _
  rw [h1, h2]
  simp only [Bool.and_assoc]
theorem checkSnap_c (i t : Int) (m : Mach) (h1 : m.sto.Small) (h2 : m.clis.length ≤ 1000000) : PCall Tryz.prog G 16 [.agg ([iC i, iC t] ++ m.c)] (iV (checkSnap i t m)) := by
  have hck := checkM_c (G := G) m h1 h2
  have n1 := tnumber_c (G := G) i
  have n2 := tnumber_c (G := G) t
  unfold checkSnap
  generalize checkM m = v at *
  generalize okNumber i = a at *
  generalize okNumber t = b at *
  obtain ⟨⟨now, es⟩, next, cs⟩ := m
  simp only [Mach.c, List.cons_append, List.nil_append] at *
  cases a <;> cases b
  all_goals
    refine pcallc mixed Tryz.func16 ac_tape_CheckSnap ?_
    repeat' (first | (with_reducible first | refine Cn (fun h => ?_) fun h => ?_ | refine And.intro ?_ ?_ | refine wR ?_ | exact wr _ _ | refine wa ?_ | apply awp_join | refine q n1 ?_ | refine qd n1 ?_ | refine qz n1 ?_ | refine q n2 ?_ | refine qd n2 ?_ | refine qz n2 ?_ | refine q hck ?_ | refine qd hck ?_ | refine qz hck ?_) | (with_reducible refine CallZ.z ?_) | simp -dsimp [go_sem])
  all_goals first | (simp_all; done) | trace_state
def zItem (x : Item) : Bool := x.term == 0 && (x.time == 0 && (!x.nop && (x.client == 0 && (x.seq == 0 && (x.k == 0 && (decide (x.key = ⟨#[]⟩) && (decide (x.field = ⟨#[]⟩) && (decide (x.text = ⟨#[]⟩) && x.n == 0))))))))
theorem zItem_iff {x : Item} : zItem x = true ↔ x = zeroItem := by
  obtain ⟨a, b, c, d, e, f, g, h, i, j⟩ := x
  unfold zItem zeroItem
  cases c <;> simp
theorem checkRc_eq (r : Rcd) : checkRc r = if r.kind < 1 ∨ 3 < r.kind then 3
  else if (r.kind ≠ 1 ∧ (r.term ≠ 0 ∨ r.fr ≠ 0)) ∨ (r.kind ≠ 2 ∧ (r.index ≠ 0 ∨ zItem r.item = false)) ∨ (r.kind ≠ 3 ∧ noSnapS r.sidx r.sterm r.mach = false) then 8
  else if r.kind = 1 then (if okNumber r.term = false ∨ r.fr < -1 ∨ 3 ≤ r.fr then 2 else 0)
  else if r.kind = 2 then (if okNumber r.index = false then 2 else r.item.check)
  else checkSnap r.sidx r.sterm r.mach := by
  unfold checkRc
  rw [noSnapS_eq]
  have e : (zItem r.item = false) = (r.item ≠ zeroItem) := by
    rw [← Bool.not_eq_true, zItem_iff]
  simp only [e]
theorem checkRc_c (r : Rcd) (h1 : r.mach.sto.Small) (h2 : r.mach.clis.length ≤ 1000000) : PCall Tryz.prog G 18 [.agg r.c] (iV (checkRc r)) := by
  rw [checkRc_eq]
  obtain ⟨kind, term, fr, index, ⟨xt, xm, xn, xc, xs, xk, xa, xb, xd, xx⟩, sidx, sterm, ⟨⟨now, es⟩, next, cs⟩⟩ := r
  have hcs := checkSnap_c (G := G) sidx sterm ⟨⟨now, es⟩, next, cs⟩ h1 h2
  have hns := noSnap_c (G := G) sidx sterm ⟨⟨now, es⟩, next, cs⟩
  have n1 := tnumber_c (G := G) term
  have n2 := tnumber_c (G := G) index
  have hci := checkItem_c (G := G) xt xm xn xc xs xk xa xb xd xx
  obtain ⟨Z, hZ⟩ : ∃ Z, zItem ⟨xt, xm, xn, xc, xs, xk, xa, xb, xd, xx⟩ = Z := ⟨_, rfl⟩
  simp only [Item.check, Rcd.c, Mach.c, List.cons_append, List.nil_append] at *
  rw [hZ]
  unfold zItem at hZ
  simp only at hZ
  generalize checkSnap sidx sterm ⟨⟨now, es⟩, next, cs⟩ = V at *
  generalize noSnapS sidx sterm ⟨⟨now, es⟩, next, cs⟩ = S at *
  generalize okNumber term = A at *
  generalize okNumber index = B at *
  generalize checkItem xt xm xn xc xs xk xa xb xd xx = I at *
  by_cases k0 : kind < 1 ∨ 3 < kind
  · rw [if_pos k0]
    by_cases k1 : kind < 1
    · have q1 : decide (kind < 1) = true := decide_eq_true k1
      refine pcallc mixed Tryz.func18 ac_tape_Check ?_
      repeat' (first | (with_reducible first | refine Cn (fun h => ?_) fun h => ?_ | refine And.intro ?_ ?_ | refine wR ?_ | exact wr _ _ | refine wa ?_ | apply awp_join) | (with_reducible refine CallZ.z ?_) | simp -dsimp [go_sem, q1])
      all_goals first | done | (simp_all; done) | (simp_all; omega) | ((repeat' split) <;> simp_all <;> omega) | trace_state
    · have q1 : decide (kind < 1) = false := decide_eq_false k1
      have q2 : decide (3 < kind) = true := decide_eq_true (by omega)
      refine pcallc mixed Tryz.func18 ac_tape_Check ?_
      repeat' (first | (with_reducible first | refine Cn (fun h => ?_) fun h => ?_ | refine And.intro ?_ ?_ | refine wR ?_ | exact wr _ _ | refine wa ?_ | apply awp_join) | (with_reducible refine CallZ.z ?_) | simp -dsimp [go_sem, q1, q2])
      all_goals first | done | (simp_all; done) | (simp_all; omega) | ((repeat' split) <;> simp_all <;> omega) | trace_state
  · rw [if_neg k0]
    have q1 : decide (kind < 1) = false := decide_eq_false (by omega)
    have q2 : decide (3 < kind) = false := decide_eq_false (by omega)
    have hk : kind = 1 ∨ kind = 2 ∨ kind = 3 := by omega
    clear k0
    rcases hk with rfl | rfl | rfl
    · refine pcallc mixed Tryz.func18 ac_tape_Check ?_
      repeat' (first | (with_reducible first | refine Cn (fun h => ?_) fun h => ?_ | refine And.intro ?_ ?_ | refine wR ?_ | exact wr _ _ | refine wa ?_ | apply awp_join | refine q hns ?_ | refine qd hns ?_ | refine qz hns ?_ | refine q n1 ?_ | refine qd n1 ?_ | refine qz n1 ?_) | (with_reducible refine CallZ.z ?_) | simp -dsimp [go_sem, hZ])
      all_goals first | done | (simp_all; done) | (simp_all; omega) | ((repeat' split) <;> simp_all <;> omega) | trace_state
    · refine pcallc mixed Tryz.func18 ac_tape_Check ?_
      repeat' (first | (with_reducible first | refine Cn (fun h => ?_) fun h => ?_ | refine And.intro ?_ ?_ | refine wR ?_ | exact wr _ _ | refine wa ?_ | apply awp_join | refine q hns ?_ | refine qd hns ?_ | refine qz hns ?_ | refine q n2 ?_ | refine qd n2 ?_ | refine qz n2 ?_ | refine q hci ?_ | refine qd hci ?_ | refine qz hci ?_) | (with_reducible refine CallZ.z ?_) | simp -dsimp [go_sem, hZ])
      all_goals first | done | (simp_all; done) | (simp_all; omega) | ((repeat' split) <;> simp_all <;> omega) | trace_state
    · refine pcallc mixed Tryz.func18 ac_tape_Check ?_
      repeat' (first | (with_reducible first | refine Cn (fun h => ?_) fun h => ?_ | refine And.intro ?_ ?_ | refine wR ?_ | exact wr _ _ | refine wa ?_ | apply awp_join | refine q hcs ?_ | refine qd hcs ?_ | refine qz hcs ?_) | (with_reducible refine CallZ.z ?_) | simp -dsimp [go_sem, hZ])
      all_goals first | done | (simp_all; done) | (simp_all; omega) | ((repeat' split) <;> simp_all <;> omega) | trace_state
end Go.Proofs.YtpdcfljbabpakaaGreatDoor
set_option linter.unusedVariables false
set_option linter.unusedSimpArgs false
set_option maxRecDepth 100000
set_option maxHeartbeats 8000000
namespace Go.Proofs.YtpdcfljbabpakaaGreatDoor
open Go Go.RowKit Go.Proofs.AE
variable {G : Nat → AV}
theorem flat_succ {α : Type} {g : α → List UInt8} {xs : List α} {i : Nat} {x : α} (h : xs[i]? = some x) : (xs.take (i + 1)).flatMap g = (xs.take i).flatMap g ++ g x := by
  rw [List.take_add_one, h, Option.toList_some, List.flatMap_append]; simp
theorem flat_take {α : Type} {g : α → List UInt8} {b : Nat} {xs : List α} (h : ∀ a ∈ xs, (g a).length ≤ b) (i : Nat) : ((xs.take i).flatMap g).length ≤ xs.length * b := by
  have h1 := flat_len (xs.take i) (fun a ha => h a (List.mem_of_mem_take ha))
  have h2 : (xs.take i).length * b ≤ xs.length * b := Nat.mul_le_mul_right _ (by rw [List.length_take]; omega)
  omega
theorem strRows_at {l : List ByteArray} {i : Nat} {t : ByteArray} (h : l[i]? = some t) : (strRows l)[i]? = some [.lit (.string t)] := by simp [strRows, h]
theorem strRows_length (l : List ByteArray) : (strRows l).length = l.length := by simp [strRows]
theorem textB_le {t : ByteArray} (h : t.size ≤ 255) : (textB t).length ≤ 256 := by rw [textB_len]; omega
theorem wtexts_c (l : List UInt8) (ts : List ByteArray) (hl : l.length ≤ 700000) (hn : ts.length ≤ 255) (ht : ∀ t ∈ ts, t.size ≤ 255) :
    DetCall Tryz.prog G 53 1 (wHp l) [.one (.ptr 0 0), .one (.v (.sl (strRows ts)))] (.tup []) (wHp (l ++ manyB textB ts)) := by
  have hs : l ++ manyB textB ts = l ++ [smallB ts.length] ++ (ts.take ts.length).flatMap textB := by simp [manyB]
  have hfl := flat_take (g := textB) (b := 256) (xs := ts) fun t h => textB_le (ht t h)
  have hsm := wsmall_c (G := G) l ts.length (by omega)
  rw [hs]
  obtain ⟨l0, hl0⟩ : ∃ l0, l ++ [smallB ts.length] = l0 := ⟨_, rfl⟩
  have hl0n : l0.length ≤ 700001 := by rw [← hl0]; simp; omega
  rw [hl0] at hsm ⊢
  have hlen := strRows_length ts
  refine gcallc mixed Tryz.func53 ac_wire_writer_texts ?_
  unfold wHp
  repeat' (first | (with_reducible first | refine Cn (fun h => ?_) fun h => ?_ | refine And.intro ?_ ?_ | refine wR ?_ | exact wr _ _ | refine wa ?_ | apply awp_join | refine qg hsm ?_ | refine qgd hsm ?_) | (with_reducible refine CallZ.z ?_) | simp -dsimp [go_sem, hlen])
  refine awp_loop (fun i : Nat => ⟨[(0, .one (.ptr 0 0)), (10, .one (.v (.sl (strRows ts)))), (11, iV ts.length), (12, iV i)], G, wHp (l0 ++ (ts.take i).flatMap textB)⟩) (fun i => i ≤ ts.length) (fun i => ts.length - i) 0 (weak_auto ?_) (Nat.zero_le _) ?_
  · simp -dsimp [go_sem]
  · intro i hi
    by_cases hil : i < ts.length
    · obtain ⟨t, hx⟩ : ∃ t, ts[i]? = some t := ⟨_, List.getElem?_eq_getElem hil⟩
      have hr := strRows_at hx
      have htt := ht t (List.mem_of_getElem? hx)
      have hfi := hfl i
      have hw := wtext_c (G := G) (l0 ++ (ts.take i).flatMap textB) t (by simp only [List.length_append, List.length_cons, List.length_nil]; omega) (by omega)
      have e1 : l0 ++ (ts.take i).flatMap textB ++ textB t = l0 ++ (ts.take (i + 1)).flatMap textB := by rw [flat_succ hx, List.append_assoc]
      rw [e1] at hw
      have q1 : decide (i < ts.length) = true := by simpa using hil
      have w1 : IntKind.i64.wrap ((i : Int) + 1) = (i : Int) + 1 := IntWalk.i64_in _ (by omega)
      generalize l0 ++ (ts.take i).flatMap textB = a at *
      obtain ⟨b, hb⟩ : ∃ b, l0 ++ (ts.take (i + 1)).flatMap textB = b := ⟨_, rfl⟩
      rw [hb] at hw
      unfold wHp at hw ⊢
      repeat' (first | (with_reducible first | refine Cn (fun h => ?_) fun h => ?_ | refine And.intro ?_ ?_ | refine wR ?_ | exact wr _ _ | refine wa ?_ | apply awp_join | refine qg hw ?_ | refine qgd hw ?_) | (with_reducible refine CallZ.z ?_) | simp -dsimp [go_sem, hr, q1, w1])
      all_goals first
        | omega
        | (refine Again.auto (i + 1) ?_ hil ?_
           · simp -dsimp [go_sem, hb]
           · show ts.length - (i + 1) < ts.length - i; omega)
        | trace_state
    · have q1 : decide (i < ts.length) = false := by simpa using hil
      have hie : i = ts.length := by omega
      rw [hie]
      generalize l0 ++ (ts.take ts.length).flatMap textB = a
      rw [hie] at q1
      unfold wHp
      repeat' (first | (with_reducible first | refine Cn (fun h => ?_) fun h => ?_ | refine And.intro ?_ ?_ | refine wR ?_ | exact wr _ _ | refine wa ?_ | apply awp_join) | (with_reducible refine CallZ.z ?_) | simp -dsimp [go_sem, q1])
      all_goals trace_state
theorem prB_le {p : Pr} (h1 : p.1.size ≤ 255) (h2 : p.2.size ≤ 255) : (prB p).length ≤ 512 := by unfold prB; rw [List.length_append, textB_len, textB_len]; omega
theorem scB_le {s : Sc} (h1 : s.1.size ≤ 255) : (scB s).length ≤ 264 := by unfold scB; rw [List.length_append, textB_len, numB_len]; omega
theorem many_le {α : Type} {g : α → List UInt8} {b : Nat} {l : List α} (hl : l.length ≤ 255) (h : ∀ a ∈ l, (g a).length ≤ b) : (manyB g l).length ≤ 1 + 255 * b := by
  have := many_len h
  have h2 : l.length * b ≤ 255 * b := Nat.mul_le_mul_right _ hl
  omega
theorem valB_split (l : List UInt8) (v : Val) : l ++ valB v = l ++ [smallB v.kind] ++ textB v.text ++ numB v.count ++ [smallB v.pairs.length] ++ v.pairs.flatMap prB ++ manyB textB v.items ++ [smallB v.scores.length] ++ v.scores.flatMap scB := by
  unfold valB manyB; simp
theorem wvalue_c (l : List UInt8) (v : Val) (hl : l.length ≤ 200000) (hv : SizV v) :
    DetCall Tryz.prog G 52 1 (wHp l) [.one (.ptr 0 0), .agg v.c] (.tup []) (wHp (l ++ valB v)) := by
  have hpl := flat_take (g := prB) (b := 512) (xs := v.pairs) fun p h => prB_le (hv.pairs.2 p h).1 (hv.pairs.2 p h).2
  have hsl := flat_take (g := scB) (b := 264) (xs := v.scores) fun p h => scB_le (hv.scores.2 p h).1
  have hil := many_le (g := textB) (b := 256) hv.items.1 fun t h => textB_le (hv.items.2 t h)
  have ht := textB_le hv.text
  have p1 := hv.pairs; have p2 := hv.items; have p3 := hv.scores; have p4 := hv.count; have p5 := hv.text
  rw [valB_split]
  obtain ⟨k, tx, n, ps, is, ss⟩ := v
  simp only [Val.c] at *
  have a1 := wsmall_c (G := G) l k (by omega)
  obtain ⟨x1, h1⟩ : ∃ x, l ++ [smallB k] = x := ⟨_, rfl⟩
  have h1n : x1.length ≤ 200001 := by rw [← h1]; simp; omega
  rw [h1] at a1 ⊢
  have a2 := wtext_c (G := G) x1 tx (by omega) (by omega)
  obtain ⟨x2, h2⟩ : ∃ x, x1 ++ textB tx = x := ⟨_, rfl⟩
  have h2n : x2.length ≤ 200257 := by rw [← h2, List.length_append]; omega
  rw [h2] at a2 ⊢
  have a3 := wnumber_c (G := G) x2 n (by omega) p4
  obtain ⟨x3, h3⟩ : ∃ x, x2 ++ numB n = x := ⟨_, rfl⟩
  have h3n : x3.length ≤ 200265 := by rw [← h3, List.length_append, numB_len]; omega
  rw [h3] at a3 ⊢
  have a4 := wsmall_c (G := G) x3 ps.length (by omega)
  obtain ⟨l0, hl0⟩ : ∃ l0, x3 ++ [smallB ps.length] = l0 := ⟨_, rfl⟩
  have hl0n : l0.length ≤ 200300 := by rw [← hl0]; simp; omega
  rw [hl0] at a4 ⊢
  have hpn : (pR ps).length = ps.length := by simp
  have hsn : (sR ss).length = ss.length := by simp
  refine gcallc mixed Tryz.func52 ac_wire_writer_value ?_
  unfold wHp at *
  repeat' (first | (with_reducible first | refine Cn (fun h => ?_) fun h => ?_ | refine And.intro ?_ ?_ | refine wR ?_ | exact wr _ _ | refine wa ?_ | apply awp_join | refine qg a1 ?_ | refine qgd a1 ?_ | refine qg a2 ?_ | refine qgd a2 ?_ | refine qg a3 ?_ | refine qgd a3 ?_ | refine qg a4 ?_ | refine qgd a4 ?_) | (with_reducible refine CallZ.z ?_) | simp -dsimp [go_sem, hpn])
  refine awp_loop (fun i : Nat => ⟨[(0, .one (.ptr 0 0)), (3, .one (.ptr 2 0)), (26, .one (.v (.sl (pR ps)))), (27, iV ps.length), (28, iV i)], G, wHp (l0 ++ (ps.take i).flatMap prB) ++ [some (.box 117 [iC k, sC tx, iC n, .v (.sl (pR ps)), .v (.sl (strRows is)), .v (.sl (sR ss))])]⟩) (fun i => i ≤ ps.length) (fun i => ps.length - i) 0 (weak_auto ?_) (Nat.zero_le _) ?_
  · simp -dsimp [go_sem]
  · intro i hi
    by_cases hilt : i < ps.length
    · obtain ⟨⟨f, t⟩, hx⟩ : ∃ p, ps[i]? = some p := ⟨_, List.getElem?_eq_getElem hilt⟩
      have hr : (pR ps)[i]? = some [.lit (.string f), .lit (.string t)] := by simp [hx, row_api_Pair]
      have htt := p1.2 _ (List.mem_of_getElem? hx)
      have hfi := hpl i
      simp only at htt
      have b1 := wtext_c (G := G) (l0 ++ (ps.take i).flatMap prB) f (by simp only [List.length_append]; omega) (by omega)
      have b2 := wtext_c (G := G) (l0 ++ (ps.take i).flatMap prB ++ textB f) t (by simp only [List.length_append, textB_len]; omega) (by omega)
      have e1 : l0 ++ (ps.take i).flatMap prB ++ textB f ++ textB t = l0 ++ (ps.take (i + 1)).flatMap prB := by rw [flat_succ hx]; simp [prB]
      rw [e1] at b2
      have q1 : decide (i < ps.length) = true := by simpa using hilt
      have w1 : IntKind.i64.wrap ((i : Int) + 1) = (i : Int) + 1 := IntWalk.i64_in _ (by omega)
      generalize l0 ++ (ps.take i).flatMap prB = a at *
      obtain ⟨b, hb⟩ : ∃ b, l0 ++ (ps.take (i + 1)).flatMap prB = b := ⟨_, rfl⟩
      rw [hb] at b2
      unfold wHp at b1 b2 ⊢
      repeat' (first | (with_reducible first | refine Cn (fun h => ?_) fun h => ?_ | refine And.intro ?_ ?_ | refine wR ?_ | exact wr _ _ | refine wa ?_ | apply awp_join | refine qg b1 ?_ | refine qgd b1 ?_ | refine qg b2 ?_ | refine qgd b2 ?_) | (with_reducible refine CallZ.z ?_) | simp -dsimp [go_sem, hr, q1, w1])
      all_goals first
        | omega
        | (refine Again.auto (i + 1) ?_ hilt ?_
           · simp -dsimp [go_sem, hb]
           · show ps.length - (i + 1) < ps.length - i; omega)
        | trace_state
    · have hie : i = ps.length := by omega
      subst hie
      rw [List.take_length]
      have hpl0 := hpl ps.length
      rw [List.take_length] at hpl0
      obtain ⟨y1, g1⟩ : ∃ x, l0 ++ ps.flatMap prB = x := ⟨_, rfl⟩
      have g1n : y1.length ≤ 340000 := by rw [← g1, List.length_append]; omega
      rw [g1]
      have c1 := wtexts_c (G := G) y1 is (by omega) p2.1 p2.2
      obtain ⟨y2, g2⟩ : ∃ x, y1 ++ manyB textB is = x := ⟨_, rfl⟩
      have g2n : y2.length ≤ 410000 := by rw [← g2, List.length_append]; omega
      rw [g2] at c1 ⊢
      have c2 := wsmall_c (G := G) y2 ss.length (by omega)
      obtain ⟨l1, hl1⟩ : ∃ l1, y2 ++ [smallB ss.length] = l1 := ⟨_, rfl⟩
      have hl1n : l1.length ≤ 500000 := by rw [← hl1]; simp; omega
      rw [hl1] at c2 ⊢
      unfold wHp at c1 c2 ⊢
      repeat' (first | (with_reducible first | refine Cn (fun h => ?_) fun h => ?_ | refine And.intro ?_ ?_ | refine wR ?_ | exact wr _ _ | refine wa ?_ | apply awp_join | refine qg c1 ?_ | refine qgd c1 ?_ | refine qg c2 ?_ | refine qgd c2 ?_) | (with_reducible refine CallZ.z ?_) | simp -dsimp [go_sem, hsn])
      refine awp_loop (fun i : Nat => ⟨[(0, .one (.ptr 0 0)), (51, .one (.v (.sl (sR ss)))), (52, iV ss.length), (53, iV i)], G, wHp (l1 ++ (ss.take i).flatMap scB)⟩) (fun i => i ≤ ss.length) (fun i => ss.length - i) 0 (weak_auto ?_) (Nat.zero_le _) ?_
      · simp -dsimp [go_sem]
      · intro i hi
        by_cases hilt : i < ss.length
        · obtain ⟨⟨f, t⟩, hx⟩ : ∃ p, ss[i]? = some p := ⟨_, List.getElem?_eq_getElem hilt⟩
          have hr : (sR ss)[i]? = some [.lit (.string f), .lit (.int .i64 t)] := by simp [hx, row_api_Score]
          have htt := p3.2 _ (List.mem_of_getElem? hx)
          have hfi := hsl i
          simp only at htt
          have b1 := wtext_c (G := G) (l1 ++ (ss.take i).flatMap scB) f (by simp only [List.length_append]; omega) (by omega)
          have b2 := wnumber_c (G := G) (l1 ++ (ss.take i).flatMap scB ++ textB f) t (by simp only [List.length_append, textB_len]; omega) htt.2
          have e1 : l1 ++ (ss.take i).flatMap scB ++ textB f ++ numB t = l1 ++ (ss.take (i + 1)).flatMap scB := by rw [flat_succ hx]; simp [scB]
          rw [e1] at b2
          have q1 : decide (i < ss.length) = true := by simpa using hilt
          have w1 : IntKind.i64.wrap ((i : Int) + 1) = (i : Int) + 1 := IntWalk.i64_in _ (by omega)
          generalize l1 ++ (ss.take i).flatMap scB = a at *
          obtain ⟨b, hb⟩ : ∃ b, l1 ++ (ss.take (i + 1)).flatMap scB = b := ⟨_, rfl⟩
          rw [hb] at b2
          unfold wHp at b1 b2 ⊢
          repeat' (first | (with_reducible first | refine Cn (fun h => ?_) fun h => ?_ | refine And.intro ?_ ?_ | refine wR ?_ | exact wr _ _ | refine wa ?_ | apply awp_join | refine qg b1 ?_ | refine qgd b1 ?_ | refine qg b2 ?_ | refine qgd b2 ?_) | (with_reducible refine CallZ.z ?_) | simp -dsimp [go_sem, hr, q1, w1])
          all_goals first
            | omega
            | (refine Again.auto (i + 1) ?_ hilt ?_
               · simp -dsimp [go_sem, hb]
               · show ss.length - (i + 1) < ss.length - i; omega)
            | trace_state
        · have hie : i = ss.length := by omega
          subst hie
          rw [List.take_length]
          generalize l1 ++ ss.flatMap scB = a
          unfold wHp
          repeat' (first | (with_reducible first | refine Cn (fun h => ?_) fun h => ?_ | refine And.intro ?_ ?_ | refine wR ?_ | exact wr _ _ | refine wa ?_ | apply awp_join) | (with_reducible refine CallZ.z ?_) | simp -dsimp [go_sem])
          all_goals trace_state
end Go.Proofs.YtpdcfljbabpakaaGreatDoor
set_option linter.unusedVariables false
set_option linter.unusedSimpArgs false
set_option maxRecDepth 100000
set_option maxHeartbeats 8000000
namespace Go.Proofs.YtpdcfljbabpakaaGreatDoor
open Go Go.RowKit Go.Proofs.AE
variable {G : Nat → AV}
theorem OkM.dom2 {m : Mach} (h : OkM m) : m.sto.Small ∧ m.clis.length ≤ 1000000 := ⟨h.sto.small, by have := h.len; omega⟩
theorem valB_le {v : Val} (h : SizV v) : (valB v).length ≤ 270000 := by
  have p := many_le (g := prB) (b := 512) h.pairs.1 fun p hp => prB_le (h.pairs.2 p hp).1 (h.pairs.2 p hp).2
  have i := many_le (g := textB) (b := 256) h.items.1 fun t ht => textB_le (h.items.2 t ht)
  have s := many_le (g := scB) (b := 264) h.scores.1 fun s hs => scB_le (h.scores.2 s hs).1
  have t := textB_le h.text
  unfold valB
  simp only [List.length_append, numB_len, List.length_cons, List.length_nil]
  omega
theorem entB_len {now : Int} {e : Ent} (h : OkE now e) : (entB e).length ≤ 930 := by
  have a := okF_size h.key; have b := valB_len' h.val
  unfold entB; simp only [List.length_append, textB_len, numB_len]; omega
theorem cliB_len {next now : Int} {x : Cli} (h : OkC next now x) : (cliB x).length ≤ 500 := by
  have hr := checkR_iff.1 h.reply
  have a := okT_size hr.text
  have b := many_len (g := textB) (b := 21) (l := x.reply.list) fun t ht => by have := okT_size (hr.list t ht); rw [textB_len]; omega
  have l := hr.len
  unfold cliB; simp only [List.length_append, textB_len, numB_len, List.length_cons, List.length_nil]; omega
theorem encode_c (m : Mach) (h : OkM m) : PCall Tryz.prog G 25 [.agg m.c] (.tup [.one (.v (.sl (bR (machB m)))), iV 0]) := by
  have hck := checkM_c (G := G) m h.dom2.1 h.dom2.2
  rw [checkM_iff.2 h] at hck
  have hel := flat_take (g := entB) (b := 930) (xs := m.sto.ents) fun e he => entB_len (h.sto.all e he)
  have hcl := flat_take (g := cliB) (b := 500) (xs := m.clis) fun x hx => cliB_len (h.all x hx)
  have hn := h.sto.now; have hx := h.next; have n1 := h.sto.len; have n2 := h.len
  have hes : ∀ e ∈ m.sto.ents, SizE e := fun e he => (h.sto.all e he).siz hn.1
  have hcs : ∀ x ∈ m.clis, SizC x := fun x hc => (h.all x hc).siz hx.2 hn.2
  clear h
  unfold machB manyB
  obtain ⟨⟨now, es⟩, next, cs⟩ := m
  simp only at hel hcl hn hx n1 n2 hes hcs
  simp only [Mach.c] at hck ⊢
  have a1 := wnumber_c (G := G) [] now (by simp) (by unfold inNum; omega)
  rw [List.nil_append] at a1
  have a2 := wsmall_c (G := G) (numB now) es.length (by rw [numB_len]; omega)
  obtain ⟨l0, hl0⟩ : ∃ l, numB now ++ [smallB es.length] = l := ⟨_, rfl⟩
  have hl0n : l0.length = 9 := by rw [← hl0]; rfl
  rw [hl0] at a2
  have hfin : numB now ++ ((smallB es.length :: es.flatMap entB) ++ (numB next ++ (smallB cs.length :: cs.flatMap cliB))) = l0 ++ es.flatMap entB ++ numB next ++ [smallB cs.length] ++ cs.flatMap cliB := by rw [← hl0]; simp
  rw [hfin]
  have hen : (eR es).length = es.length := by simp
  have hcn : (clR cs).length = cs.length := by simp
  refine pcallc mixed Tryz.func25 ac_wire_Encode ?_
  unfold wHp at *
  repeat' (first | (with_reducible first | refine Cn (fun h => ?_) fun h => ?_ | refine And.intro ?_ ?_ | refine wR ?_ | exact wr _ _ | refine wa ?_ | apply awp_join | refine q hck ?_ | refine qd hck ?_ | refine qz hck ?_ | refine qg a1 ?_ | refine qgd a1 ?_ | refine qg a2 ?_ | refine qgd a2 ?_) | (refine CallZ.l (CallK.thaw 1 0 5 1 rfl rfl (by decide) ?_); simp -dsimp [go_sem]) | (with_reducible refine CallZ.z ?_) | simp -dsimp [go_sem, hen])
  refine awp_loop (fun i : Nat => ⟨[(1, .one (.ptr 0 0)), (5, .one (.ptr 1 0)), (30, .one (.v (.sl (eR es)))), (31, iV es.length), (32, iV i)], G, [some (.box 28 [iC now, .v (.sl (eR es)), iC next, .v (.sl (clR cs))]), some (.box 112 [.ar 2]), some (.arr 5 1 (bR (l0 ++ (es.take i).flatMap entB)))]⟩) (fun i => i ≤ es.length) (fun i => es.length - i) 0 (weak_auto ?_) (Nat.zero_le _) ?_
  · simp -dsimp [go_sem]
  · intro i hi
    by_cases hilt : i < es.length
    · obtain ⟨e, hx⟩ : ∃ p, es[i]? = some p := ⟨_, List.getElem?_eq_getElem hilt⟩
      have hr : (eR es)[i]? = some e.row := by simp [hx]
      have hse := hes e (List.mem_of_getElem? hx)
      have hfi := hel i
      have hb3 := valB_le hse.val
      obtain ⟨y0, g0⟩ : ∃ x, l0 ++ (es.take i).flatMap entB = x := ⟨_, rfl⟩
      have g0n : y0.length ≤ 12000 := by rw [← g0, List.length_append]; omega
      have b1 := wtext_c (G := G) y0 e.key (by omega) (by have := hse.key; omega)
      obtain ⟨y1, g1⟩ : ∃ x, y0 ++ textB e.key = x := ⟨_, rfl⟩
      have g1n : y1.length ≤ 13000 := by rw [← g1, List.length_append]; have := textB_le hse.key; omega
      have b2 := wvalue_c (G := G) y1 e.val (by omega) hse.val
      obtain ⟨y2, g2⟩ : ∃ x, y1 ++ valB e.val = x := ⟨_, rfl⟩
      have g2n : y2.length ≤ 300000 := by rw [← g2, List.length_append]; omega
      have b3 := wnumber_c (G := G) y2 e.till (by omega) hse.till
      have e1 : y2 ++ numB e.till = l0 ++ (es.take (i + 1)).flatMap entB := by rw [flat_succ hx, ← g2, ← g1, ← g0]; simp [entB]
      obtain ⟨b, hb⟩ : ∃ b, l0 ++ (es.take (i + 1)).flatMap entB = b := ⟨_, rfl⟩
      rw [g1] at b1
      rw [g2] at b2
      rw [e1, hb] at b3
      rw [g0]
      clear g1 g2 e1 g0
      have q1 : decide (i < es.length) = true := by simpa using hilt
      have w1 : IntKind.i64.wrap ((i : Int) + 1) = (i : Int) + 1 := IntWalk.i64_in _ (by omega)
      clear hck a1 a2
      obtain ⟨key, ⟨vk, vt, vn, vp, vi, vs⟩, till⟩ := e
      simp only [Val.c] at b1 b2 b3
      simp only [Ent.row] at hr
      unfold wHp at b1 b2 b3
      repeat' (first | (with_reducible first | refine Cn (fun h => ?_) fun h => ?_ | refine And.intro ?_ ?_ | refine wR ?_ | exact wr _ _ | refine wa ?_ | apply awp_join | refine qg b1 ?_ | refine qgd b1 ?_ | refine qg b2 ?_ | refine qgd b2 ?_ | refine qg b3 ?_ | refine qgd b3 ?_) | (with_reducible refine CallZ.z ?_) | simp -dsimp [go_sem, hr, q1, w1])
      all_goals first
        | omega
        | (refine Again.auto (i + 1) ?_ hilt ?_
           · simp -dsimp [go_sem, hb]
           · show es.length - (i + 1) < es.length - i; omega)
        | trace_state
    · have hie : i = es.length := by omega
      subst hie
      rw [List.take_length]
      have hel0 := hel es.length
      rw [List.take_length] at hel0
      clear hck a1 a2
      obtain ⟨y1, g1⟩ : ∃ x, l0 ++ es.flatMap entB = x := ⟨_, rfl⟩
      have g1n : y1.length ≤ 12000 := by rw [← g1, List.length_append]; omega
      rw [g1]
      have c1 := wnumber_c (G := G) y1 next (by omega) (by unfold inNum; omega)
      obtain ⟨y2, g2⟩ : ∃ x, y1 ++ numB next = x := ⟨_, rfl⟩
      have g2n : y2.length ≤ 13000 := by rw [← g2, List.length_append, numB_len]; omega
      rw [g2] at c1 ⊢
      have c2 := wsmall_c (G := G) y2 cs.length (by omega)
      obtain ⟨l1, hl1⟩ : ∃ l1, y2 ++ [smallB cs.length] = l1 := ⟨_, rfl⟩
      have hl1n : l1.length ≤ 14000 := by rw [← hl1]; simp; omega
      rw [hl1] at c2 ⊢
      unfold wHp at c1 c2
      repeat' (first | (with_reducible first | refine Cn (fun h => ?_) fun h => ?_ | refine And.intro ?_ ?_ | refine wR ?_ | exact wr _ _ | refine wa ?_ | apply awp_join | refine qg c1 ?_ | refine qgd c1 ?_ | refine qg c2 ?_ | refine qgd c2 ?_) | (with_reducible refine CallZ.z ?_) | simp -dsimp [go_sem, hcn])
      refine awp_loop (fun i : Nat => ⟨[(5, .one (.ptr 0 0)), (59, .one (.v (.sl (clR cs)))), (60, iV cs.length), (61, iV i)], G, wHp (l1 ++ (cs.take i).flatMap cliB)⟩) (fun i => i ≤ cs.length) (fun i => cs.length - i) 0 (weak_auto ?_) (Nat.zero_le _) ?_
      · simp -dsimp [go_sem]
      · intro i hi
        by_cases hilt : i < cs.length
        · obtain ⟨x, hx⟩ : ∃ p, cs[i]? = some p := ⟨_, List.getElem?_eq_getElem hilt⟩
          have hr : (clR cs)[i]? = some x.row := by simp [hx]
          have hsc := hcs x (List.mem_of_getElem? hx)
          have hfi := hcl i
          have htl := textB_le hsc.text
          obtain ⟨y0, g0⟩ : ∃ y, l1 ++ (cs.take i).flatMap cliB = y := ⟨_, rfl⟩
          have g0n : y0.length ≤ 20000 := by rw [← g0, List.length_append]; omega
          have b1 := wnumber_c (G := G) y0 x.id (by omega) hsc.id
          obtain ⟨y1, g1⟩ : ∃ y, y0 ++ numB x.id = y := ⟨_, rfl⟩
          have g1n : y1.length ≤ 20008 := by rw [← g1, List.length_append, numB_len]; omega
          have b2 := wnumber_c (G := G) y1 x.seq (by omega) hsc.seq
          obtain ⟨y2, g2⟩ : ∃ y, y1 ++ numB x.seq = y := ⟨_, rfl⟩
          have g2n : y2.length ≤ 20016 := by rw [← g2, List.length_append, numB_len]; omega
          have b3 := wnumber_c (G := G) y2 x.time (by omega) hsc.time
          obtain ⟨y3, g3⟩ : ∃ y, y2 ++ numB x.time = y := ⟨_, rfl⟩
          have g3n : y3.length ≤ 20024 := by rw [← g3, List.length_append, numB_len]; omega
          have b4 := wsmall_c (G := G) y3 x.reply.code (by omega)
          obtain ⟨y4, g4⟩ : ∃ y, y3 ++ [smallB x.reply.code] = y := ⟨_, rfl⟩
          have g4n : y4.length ≤ 20025 := by rw [← g4]; simp; omega
          have b5 := wtext_c (G := G) y4 x.reply.text (by omega) (by have := hsc.text; omega)
          obtain ⟨y5, g5⟩ : ∃ y, y4 ++ textB x.reply.text = y := ⟨_, rfl⟩
          have g5n : y5.length ≤ 20300 := by rw [← g5, List.length_append]; omega
          have b6 := wnumber_c (G := G) y5 x.reply.n (by omega) hsc.n
          obtain ⟨y6, g6⟩ : ∃ y, y5 ++ numB x.reply.n = y := ⟨_, rfl⟩
          have g6n : y6.length ≤ 20308 := by rw [← g6, List.length_append, numB_len]; omega
          have b7 := wtexts_c (G := G) y6 x.reply.list (by omega) hsc.list.1 hsc.list.2
          have e1 : y6 ++ manyB textB x.reply.list = l1 ++ (cs.take (i + 1)).flatMap cliB := by rw [flat_succ hx, ← g6, ← g5, ← g4, ← g3, ← g2, ← g1, ← g0]; simp [cliB]
          obtain ⟨b, hb⟩ : ∃ b, l1 ++ (cs.take (i + 1)).flatMap cliB = b := ⟨_, rfl⟩
          rw [g1] at b1
          rw [g2] at b2
          rw [g3] at b3
          rw [g4] at b4
          rw [g5] at b5
          rw [g6] at b6
          rw [e1, hb] at b7
          rw [g0]
          clear g1 g2 g3 g4 g5 g6 e1 g0
          have q1 : decide (i < cs.length) = true := by simpa using hilt
          have w1 : IntKind.i64.wrap ((i : Int) + 1) = (i : Int) + 1 := IntWalk.i64_in _ (by omega)
          clear c1 c2
          obtain ⟨id, seq, time, ⟨rc, rt, rn, rl⟩⟩ := x
          simp only [Cli.row] at hr
          simp only at b1 b2 b3 b4 b5 b6 b7
          unfold wHp at b1 b2 b3 b4 b5 b6 b7 ⊢
          repeat' (first | (with_reducible first | refine Cn (fun h => ?_) fun h => ?_ | refine And.intro ?_ ?_ | refine wR ?_ | exact wr _ _ | refine wa ?_ | apply awp_join | refine qg b1 ?_ | refine qgd b1 ?_ | refine qg b2 ?_ | refine qgd b2 ?_ | refine qg b3 ?_ | refine qgd b3 ?_ | refine qg b4 ?_ | refine qgd b4 ?_ | refine qg b5 ?_ | refine qgd b5 ?_ | refine qg b6 ?_ | refine qgd b6 ?_ | refine qg b7 ?_ | refine qgd b7 ?_) | (with_reducible refine CallZ.z ?_) | simp -dsimp [go_sem, hr, q1, w1])
          all_goals first
            | omega
            | (refine Again.auto (i + 1) ?_ hilt ?_
               · simp -dsimp [go_sem, hb]
               · show cs.length - (i + 1) < cs.length - i; omega)
            | trace_state
        · have hie : i = cs.length := by omega
          subst hie
          rw [List.take_length]
          generalize l1 ++ cs.flatMap cliB = a
          unfold wHp
          repeat' (first | (with_reducible first | refine Cn (fun h => ?_) fun h => ?_ | refine And.intro ?_ ?_ | refine wR ?_ | exact wr _ _ | refine wa ?_ | apply awp_join) | (with_reducible refine CallZ.z ?_) | simp -dsimp [go_sem])
          all_goals trace_state
end Go.Proofs.YtpdcfljbabpakaaGreatDoor
set_option linter.unusedVariables false
set_option linter.unusedSimpArgs false
set_option maxRecDepth 100000
set_option maxHeartbeats 8000000
namespace Go.Proofs.YtpdcfljbabpakaaGreatDoor
open Go Go.RowKit Go.Proofs.AE
def cleanF : List Nat → List (Nat × AV) → List (Nat × AV)
  | _, [] => []
  | seen, (t, v) :: r => bif memB t seen then cleanF seen r else (t, v) :: cleanF (t :: seen) r
theorem getF_cleanF : ∀ (fr : List (Nat × AV)) (seen : List Nat) (t : Nat), t ∉ seen → getF (cleanF seen fr) t = getF fr t
  | [], _, _, _ => rfl
  | (u, v) :: r, seen, t, h => by
    unfold cleanF
    cases hm : memB u seen with
    | true =>
      have hu : u ∈ seen := memB_iff.1 hm
      have hne : u ≠ t := fun e => h (e ▸ hu)
      simp only [cond_true]
      rw [getF_cleanF r seen t h]
      simp only [getF, hne, if_false]
    | false =>
      simp only [cond_false, getF]
      by_cases e : u = t
      · simp [e]
      · simp only [e, if_false]
        exact getF_cleanF r (u :: seen) t (by simp only [List.mem_cons, not_or]; exact ⟨fun h => e h.symm, h⟩)
theorem clean_nil (seen : List Nat) : cleanF seen [] = [] := rfl
def cleanS (b : Bool) (seen : List Nat) (t : Nat) (v : AV) (r : List (Nat × AV)) : List (Nat × AV) := bif b then cleanF seen r else (t, v) :: cleanF (t :: seen) r
theorem clean_cons {seen : List Nat} {t : Nat} {v : AV} {r : List (Nat × AV)} : cleanF seen ((t, v) :: r) = cleanS (memB t seen) seen t v r := rfl
theorem clean_yes {seen : List Nat} {t : Nat} {v : AV} {r : List (Nat × AV)} : cleanS true seen t v r = cleanF seen r := rfl
theorem clean_no {seen : List Nat} {t : Nat} {v : AV} {r : List (Nat × AV)} : cleanS false seen t v r = (t, v) :: cleanF (t :: seen) r := rfl
theorem weak_autoC {k : Nat} {s s' : S} (h : WA k s ⟨cleanF [] s'.fr, s'.gl, s'.hp⟩) : Weak k s s' := by
  refine Weak.trans (weak_auto h) ⟨rfl, fun n w ok μ a hst => ⟨ok, μ, ⟨hst.hr, hst.size, hst.defers, fun t => ?_, hst.gl⟩, (Go.Proofs.AE.Step.refl hst.hr).far⟩⟩
  have := hst.fr t
  rw [getF_cleanF _ _ _ (by simp)] at this
  exact this
end Go.Proofs.YtpdcfljbabpakaaGreatDoor
set_option linter.unusedVariables false
set_option linter.unusedSimpArgs false
set_option maxRecDepth 100000
set_option maxHeartbeats 8000000
namespace Go.Proofs.YtpdcfljbabpakaaGreatDoor
open Go Go.RowKit Go.Proofs.AE
def subC : List Nat → ACode → ACode
  | [], c => c
  | i :: r, .seq a b => subC r (if i = 0 then a else b)
  | i :: r, .cond _ t e => subC r (if i = 0 then t else e)
  | _ :: r, .block _ c => subC r c
  | _ :: r, .loop c => subC r c
  | _, c => c
structure PartIs (d : ACode) : Prop where
theorem PartIs.of {f : Func} {c : ACode} {rs : List ResultVar} {d : ACode} (cc : CC f c rs) (p : List Nat) (h : subC p c = d := by (conv => lhs; simp [subC]); all_goals exact rfl) : PartIs d := ⟨⟩
abbrev codeOf {d : ACode} (_ : PartIs d) : ACode := d
def nthAlt : ACode → Nat → List AOp × List (Nat × Nat)
  | .regD l, j => l.getD j ([], [])
  | _, _ => ([], [])
def AltOk (P : Program) (c : ACode) (j : Nat) (s s' : S) : Prop := aopsD P (nthAlt c j).1 [] s (fun h q => stables P (nthAlt c j).1 (s :: h) (nthAlt c j).2 ∧ Weak 0 q s')
theorem alts_of {P : Program} {Q : Exit → S → Prop} {s s' : S} : ∀ (l : List (List AOp × List (Nat × Nat))), (∀ j, j < l.length → AltOk P (.regD l) j s s') → allAlts P s (fun q => Weak 0 q s') l
  | [], _ => trivial
  | (al, ps) :: r, h => ⟨h 0 (by simp), alts_of (Q := Q) r fun j hj => by have := h (j + 1) (by simpa using hj); unfold AltOk nthAlt at this ⊢; simpa using this⟩
def AllOk (P : Program) (c : ACode) (s s' : S) : Nat → Prop
  | 0 => True
  | n + 1 => AltOk P c n s s' ∧ AllOk P c s s' n
theorem AllOk.get {P : Program} {c : ACode} {s s' : S} : ∀ {n : Nat}, AllOk P c s s' n → ∀ j, j < n → AltOk P c j s s'
  | 0, _, j, hj => by omega
  | n + 1, h, j, hj => by
    by_cases e : j = n
    · subst e; exact h.1
    · exact AllOk.get h.2 j (by omega)
theorem reg_of {P : Program} {Q : Exit → S → Prop} {s s' : S} {c : ACode} (l : List (List AOp × List (Nat × Nat))) (n : Nat) (hc : c = .regD l) (hn : l.length = n) (h : AllOk P c s s' n) (hq : Q .normal s') : awp P 0 c Q s := by
  subst hc
  exact awp_join s' (alts_of (Q := Q) l fun j hj => h.get j (by omega)) hq
end Go.Proofs.YtpdcfljbabpakaaGreatDoor
