/- Texts joined. -/
import Derived.Test.YtpdcfljbabpakaaGreatDoorSk9
import Derived.Test.YtpdcfljbabpakaaGreatDoorSk5
set_option linter.unusedVariables false
set_option linter.unusedSimpArgs false
set_option maxRecDepth 100000
set_option maxHeartbeats 8000000
namespace Go.Proofs.YtpdcfljbabpakaaGreatDoor
open Go Go.RowKit Go.Proofs.AE
variable {G : Nat → AV}
abbrev rowsV (x : List Item) : AV := .one (.v (.sl (x.map Item.row)))
def Item.same (x y : Item) : Bool := (x.term == y.term) && ((x.time == y.time) && ((x.nop == y.nop) && ((x.client == y.client) && ((x.seq == y.seq) && ((x.k == y.k) && (decide (x.key = y.key) && (decide (x.field = y.field) && (decide (x.text = y.text) && (x.n == y.n)))))))))
theorem Item.same_iff (x y : Item) : x.same y = true ↔ x = y := by
  cases x; cases y; simp [Item.same]
instance : DecidableEq Item := fun x y => decidable_of_iff (x.same y = true) (Item.same_iff x y)
theorem Item.same_dec (x y : Item) : x.same y = decide (x = y) := by
  rw [Bool.eq_iff_iff, Item.same_iff, decide_eq_true_iff]
theorem sameItems_c (a b : List Item) (ha : (a.length : Int) ≤ 9223372036854775807) : PCall Tryz.prog G 23 [rowsV a, rowsV b] (bV (decide (a = b))) := by
  refine pcallc mixed Tryz.func23 ac_rostrumkeep_sameItems ?_
  by_cases hl : a.length = b.length
  · repeat' (first | (with_reducible first | refine Cn (fun h => ?_) fun h => ?_ | refine And.intro ?_ ?_ | refine wR ?_ | exact wr _ _ | refine wa ?_ | apply awp_join) | (with_reducible refine CallZ.z ?_) | simp -dsimp [go_sem, hl])
    refine awp_loop (fun i : Nat => ⟨[(0, rowsV a), (1, rowsV b), (5, iV i)], G, []⟩) (fun i => i ≤ a.length ∧ a.take i = b.take i) (fun i => a.length - i) 0 (weak_auto ?_) ⟨Nat.zero_le _, rfl⟩ ?_
    · simp -dsimp [go_sem]
    · rintro i ⟨hi, hx⟩
      simp -dsimp [go_sem]
      refine Cnd.intro (fun h => ?_) (fun h => ?_)
      · have hlt : i < a.length := by simpa using h
        have hlt' : i < b.length := by omega
        have hga : (a.map Item.row)[i]? = some a[i].row := by simp [hlt]
        have hgb : (b.map Item.row)[i]? = some b[i].row := by simp [hlt']
        have hs : a[i].same b[i] = decide (a[i] = b[i]) := Item.same_dec _ _
        have e4 : IntKind.i64.wrap ((i : Int) + 1) = (i : Int) + 1 := IntWalk.i64_in _ (by omega)
        unfold Item.same at hs
        repeat' (first | (with_reducible first | refine Cn (fun h => ?_) fun h => ?_ | refine And.intro ?_ ?_ | refine wR ?_ | exact wr _ _ | refine wa ?_ | apply awp_join) | (with_reducible refine CallZ.z ?_) | simp -dsimp [go_sem, hga, hgb, Item.row, hs, e4])
        all_goals first
          | (with_reducible refine Again.auto (i + 1) ?_ ?_ ?_)
          | skip
        · intro hab; subst hab; simp_all
        · simp -dsimp [go_sem]
        · refine ⟨hlt, ?_⟩
          have hab : a[i] = b[i] := by simp_all
          rw [List.take_succ_eq_append_getElem hlt, List.take_succ_eq_append_getElem hlt', hx, hab]
        · show a.length - (i + 1) < a.length - i
          omega
      · have hge : ¬ i < a.length := by simpa using h
        have hab : a = b := by
          rw [List.take_of_length_le (by omega), List.take_of_length_le (by omega)] at hx
          exact hx
        simp -dsimp [go_sem, hab]
  · have hne : ¬ a = b := fun e => hl (by rw [e])
    have hl' : ¬ ((a.length : Int) = b.length) := by omega
    repeat' (first | (with_reducible first | refine Cn (fun h => ?_) fun h => ?_ | refine And.intro ?_ ?_ | refine wR ?_ | exact wr _ _ | refine wa ?_ | apply awp_join) | (with_reducible refine CallZ.z ?_) | simp -dsimp [go_sem, hl, hne, hl'])
    all_goals simp_all
theorem last_room (base bt : Int) (x : List Item) (h : checkLog base bt x = 0) : base + x.length ≤ 1048576 := by
  unfold checkLog at h
  split at h
  · rename_i hh
    simp [headOk] at hh
    omega
  · cases h
theorem termErr_range {base : Int} {n : Nat} {place : Int} (ht : termErr base n place = 0) : base ≤ place ∧ place - base ≤ n := by
  unfold termErr at ht
  split at ht
  · cases ht
  · split at ht
    · omega
    · split at ht
      · cases ht
      · omega
theorem termErr_ok {base : Int} {n : Nat} {place : Int} (h : base ≤ place ∧ place - base ≤ n) : termErr base n place = 0 := by
  unfold termErr
  rw [if_neg (by omega)]
  split
  · rfl
  · rw [if_neg (by omega)]
theorem termI_c (base bt : Int) (x : List Item) (place : Int) (hb : 0 ≤ base ∧ base + x.length ≤ 1048576) (hx : x.length ≤ 200) (hp : i64 place) : PCall Tryz.prog G 45 [.agg (logC base bt x), iV place] (.tup [iV (termAt base bt x place), iV (termErr base x.length place)]) := by
  unfold i64 at hp
  by_cases h1 : place < base
  · refine pcallc mixed Tryz.func45 ac_ledger_term ?_
    repeat' (first | (with_reducible first | refine Cn (fun h => ?_) fun h => ?_ | refine And.intro ?_ ?_ | refine wR ?_ | exact wr _ _ | refine wa ?_ | apply awp_join) | (with_reducible refine CallZ.z ?_) | simp -dsimp [go_sem, h1, termAt, termErr])
  · by_cases h2 : place ≤ 1048576
    · exact term_c base bt x place ⟨hb.1, by omega⟩ hx ⟨by omega, h2⟩
    · have e1 : IntKind.i64.wrap (place - base) = place - base := IntWalk.i64_in _ (by omega)
      have h3 : ¬ place = base := by omega
      have h4 : (x.length : Int) < place - base := by omega
      refine pcallc mixed Tryz.func45 ac_ledger_term ?_
      repeat' (first | (with_reducible first | refine Cn (fun h => ?_) fun h => ?_ | refine And.intro ?_ ?_ | refine wR ?_ | exact wr _ _ | refine wa ?_ | apply awp_join) | (with_reducible refine CallZ.z ?_) | simp -dsimp [go_sem, h1, h3, h4, e1, termAt, termErr])
      all_goals simp_all
theorem cloneItems_c (rows : List (List V)) (hu : UL 10 rows) (hx : rows.length ≤ 1000000) : PCall Tryz.prog G 71 [.one (.v (.sl rows))] (.one (.v (.sl rows))) := by
  refine pcallc mixed Tryz.func71 ac_slices_Clone_api_Item ?_
  repeat' (first | (with_reducible first | refine Cn (fun h => ?_) fun h => ?_ | refine And.intro ?_ ?_ | refine wR ?_ | exact wr _ _ | refine wa ?_ | apply awp_join | refine q (cases q) ?_ | refine qd (cases q) ?_ | refine qz (cases q) ?_) | (intro q hq) | (with_reducible refine CallZ.z ?_) | simp -dsimp [go_sem])
  all_goals first | omega | exact hu _ ‹_›
theorem ul_rows (x : List Item) : UL 10 (x.map Item.row) := by
  intro r hr
  obtain ⟨y, _, rfl⟩ := List.mem_map.1 hr
  rfl
theorem ul_take {k n : Nat} {rows : List (List V)} (h : UL k rows) : UL k (rows.take n) := fun r hr => h r (List.mem_of_mem_take hr)
theorem ul_drop {k n : Nat} {rows : List (List V)} (h : UL k rows) : UL k (rows.drop n) := fun r hr => h r (List.mem_of_mem_drop hr)
theorem trim_c (base bt : Int) (x : List Item) (place : Int) (h : checkLog base bt x = 0) (hp : i64 place) (ht : termErr base x.length place = 0) :
    PCall Tryz.prog G 80 [.agg (logC base bt x), iV place] (.tup [.agg (logC place (termAt base bt x place) (x.drop (place - base).toNat)), iV 0]) := by
  obtain ⟨b1, b2, b3, b4, b5⟩ := last_c' base bt x h
  have b6 := last_room base bt x h
  have hr := termErr_range ht
  have e1 : IntKind.i64.wrap (place - base) = place - base := IntWalk.i64_in _ (by omega)
  have hcl : ∀ n : Nat, UL 10 ((x.map Item.row).drop n) ∧ ((x.map Item.row).drop n).length ≤ 1000000 := fun n => ⟨ul_drop (ul_rows x), by simp; omega⟩
  have htk : (x.map Item.row).take x.length = x.map Item.row := List.take_of_length_le (by simp)
  refine pcallc mixed Tryz.func80 ac_ledger_Trim ?_
  repeat' (first | (with_reducible first | refine Cn (fun h => ?_) fun h => ?_ | refine And.intro ?_ ?_ | refine wR ?_ | exact wr _ _ | refine wa ?_ | apply awp_join | refine q1 (by exact checkLog_c _ _ _ (by omega)) ?_ | refine q1d (by exact checkLog_c _ _ _ (by omega)) ?_ | refine q (termI_c _ _ _ _ ⟨b1, b6⟩ b3 hp) ?_ | refine qd (termI_c _ _ _ _ ⟨b1, b6⟩ b3 hp) ?_ | refine qz (termI_c _ _ _ _ ⟨b1, b6⟩ b3 hp) ?_ | refine q (cloneItems_c _ (hcl _).1 (hcl _).2) ?_ | refine qd (cloneItems_c _ (hcl _).1 (hcl _).2) ?_ | refine qz (cloneItems_c _ (hcl _).1 (hcl _).2) ?_) | (with_reducible refine CallZ.z ?_) | simp -dsimp [go_sem, htk, h, ht, e1])
  all_goals first | omega | exact ul_rows _ | (simp [List.map_drop]; done) | skip
end Go.Proofs.YtpdcfljbabpakaaGreatDoor
set_option linter.unusedVariables false
set_option linter.unusedSimpArgs false
set_option maxRecDepth 100000
set_option maxHeartbeats 8000000
namespace Go.Proofs.YtpdcfljbabpakaaGreatDoor
open Go Go.RowKit Go.Proofs.AE
structure Rcd where
  kind : Int
  term : Int
  fr : Int
  index : Int
  item : Item
  sidx : Int
  sterm : Int
  mach : Mach
def noSnap (r : Rcd) : Bool := r.sidx == 0 && r.sterm == 0 && r.mach.next == 0 && r.mach.clis.isEmpty && r.mach.sto.now == 0 && r.mach.sto.ents.isEmpty
def checkSnap (i t : Int) (m : Mach) : Int := if okNumber i = false ∨ okNumber t = false then 2 else checkM m
def checkRc (r : Rcd) : Int :=
  if r.kind < 1 ∨ 3 < r.kind then 3
  else if (r.kind ≠ 1 ∧ (r.term ≠ 0 ∨ r.fr ≠ 0)) ∨ (r.kind ≠ 2 ∧ (r.index ≠ 0 ∨ r.item ≠ zeroItem)) ∨ (r.kind ≠ 3 ∧ noSnap r = false) then 8
  else if r.kind = 1 then (if okNumber r.term = false ∨ r.fr < -1 ∨ 3 ≤ r.fr then 2 else 0)
  else if r.kind = 2 then (if okNumber r.index = false then 2 else r.item.check)
  else checkSnap r.sidx r.sterm r.mach
theorem noSnap_iff {r : Rcd} : noSnap r = true ↔ r.sidx = 0 ∧ r.sterm = 0 ∧ r.mach = zeroM := by
  obtain ⟨k, t, f, i, x, si, st, ⟨⟨now, ents⟩, next, clis⟩⟩ := r
  unfold noSnap zeroM zeroS
  simp only [Bool.and_eq_true, beq_iff_eq, List.isEmpty_iff, Mach.mk.injEq, Sto.mk.injEq]
  constructor
  · rintro ⟨⟨⟨⟨⟨a, b⟩, c⟩, d⟩, e⟩, f⟩; exact ⟨a, b, ⟨e, f⟩, c, d⟩
  · rintro ⟨a, b, ⟨e, f⟩, c, d⟩; exact ⟨⟨⟨⟨⟨a, b⟩, c⟩, d⟩, e⟩, f⟩
theorem rc_cases {r : Rcd} (h : checkRc r = 0) :
    (∃ t f, r = ⟨1, t, f, 0, zeroItem, 0, 0, zeroM⟩ ∧ okNumber t = true ∧ -1 ≤ f ∧ f < 3) ∨ (∃ i x, r = ⟨2, 0, 0, i, x, 0, 0, zeroM⟩ ∧ okNumber i = true ∧ x.check = 0) ∨ (∃ i t m, r = ⟨3, 0, 0, 0, zeroItem, i, t, m⟩ ∧ okNumber i = true ∧ okNumber t = true ∧ OkM m) := by
  unfold checkRc at h
  split at h
  · cases h
  · rename_i h1
    split at h
    · cases h
    · rename_i h2
      obtain ⟨k, t, f, i, x, si, st, m⟩ := r
      simp only at h h1 h2
      have hs : k ≠ 3 → si = 0 ∧ st = 0 ∧ m = zeroM := fun hk => by
        have : noSnap ⟨k, t, f, i, x, si, st, m⟩ = true := by
          cases hn : noSnap ⟨k, t, f, i, x, si, st, m⟩ with
          | true => rfl
          | false => exact absurd (.inr (.inr ⟨hk, hn⟩)) h2
        exact noSnap_iff.1 this
      have hi : k ≠ 2 → i = 0 ∧ x = zeroItem := fun hk => by
        refine ⟨?_, ?_⟩
        · by_cases e : i = 0; exact e; exact absurd (.inr (.inl ⟨hk, .inl e⟩)) h2
        · by_cases e : x = zeroItem; exact e; exact absurd (.inr (.inl ⟨hk, .inr e⟩)) h2
      have hm : k ≠ 1 → t = 0 ∧ f = 0 := fun hk => by
        refine ⟨?_, ?_⟩
        · by_cases e : t = 0; exact e; exact absurd (.inl ⟨hk, .inl e⟩) h2
        · by_cases e : f = 0; exact e; exact absurd (.inl ⟨hk, .inr e⟩) h2
      split at h
      · rename_i h3
        subst h3
        obtain ⟨rfl, rfl, rfl⟩ := hs (by omega)
        obtain ⟨rfl, rfl⟩ := hi (by omega)
        split at h
        · cases h
        · rename_i h4
          simp only [not_or, Bool.not_eq_false] at h4
          exact .inl ⟨t, f, rfl, h4.1, by omega, by omega⟩
      · rename_i h3
        obtain ⟨rfl, rfl⟩ := hm h3
        split at h
        · rename_i h4
          subst h4
          obtain ⟨rfl, rfl, rfl⟩ := hs (by omega)
          split at h
          · cases h
          · rename_i h5
            exact .inr (.inl ⟨i, x, rfl, by simpa using h5, h⟩)
        · rename_i h4
          have hk : k = 3 := by omega
          subst hk
          obtain ⟨rfl, rfl⟩ := hi (by omega)
          unfold checkSnap at h
          split at h
          · cases h
          · rename_i h5
            simp only [not_or, Bool.not_eq_false] at h5
            exact .inr (.inr ⟨si, st, m, rfl, h5.1, h5.2, checkM_iff.1 h⟩)
end Go.Proofs.YtpdcfljbabpakaaGreatDoor
set_option linter.unusedVariables false
set_option linter.unusedSimpArgs false
set_option maxRecDepth 100000
set_option maxHeartbeats 8000000
namespace Go.Proofs.YtpdcfljbabpakaaGreatDoor
open Go Go.RowKit Go.Proofs.AE
structure Lg where
  base : Int
  bt : Int
  items : List Item
def Lg.c (g : Lg) : List C := logC g.base g.bt g.items
def Lg.check (g : Lg) : Int := checkLog g.base g.bt g.items
def zeroLg : Lg := ⟨0, 0, []⟩
structure Dsk where
  term : Int
  fr : Int
  sidx : Int
  sterm : Int
  mach : Mach
  log : Lg
def Dsk.c (d : Dsk) : List C := [iC d.term, iC d.fr, iC d.sidx, iC d.sterm] ++ d.mach.c ++ d.log.c
def zeroD : Dsk := ⟨0, 0, 0, 0, zeroM, zeroLg⟩
def newD : Dsk := ⟨0, -1, 0, 0, newM, zeroLg⟩
def lineD (g : Lg) (place : Int) (x : Item) : Lg × Int :=
  if place ≤ g.base then (g, 0)
  else if g.base + g.items.length + 1 < place then (g, 10)
  else if checkLog g.base g.bt (g.items.take (place - g.base - 1).toNat ++ [x]) ≠ 0 then (g, 10)
  else (⟨g.base, g.bt, g.items.take (place - g.base - 1).toNat ++ [x]⟩, 0)
def restD (g : Lg) (i t : Int) : Lg :=
  if termErr g.base g.items.length i = 0 ∧ termAt g.base g.bt g.items i = t then ⟨i, t, g.items.drop (i - g.base).toNat⟩ else ⟨i, t, []⟩
def foldStep (d : Dsk) (r : Rcd) : Dsk × Int :=
  if checkRc r ≠ 0 then (zeroD, checkRc r)
  else if r.kind = 1 then ({ d with term := r.term, fr := r.fr }, 0)
  else if r.kind = 2 then (if (lineD d.log r.index r.item).2 ≠ 0 then (zeroD, (lineD d.log r.index r.item).2) else ({ d with log := (lineD d.log r.index r.item).1 }, 0))
  else if d.sidx < r.sidx then ({ d with sidx := r.sidx, sterm := r.sterm, mach := r.mach, log := restD d.log r.sidx r.sterm }, 0)
  else (d, 0)
def foldGo (d : Dsk) : List Rcd → Dsk × Int
  | [] => (d, 0)
  | r :: l => if (foldStep d r).2 ≠ 0 then (foldStep d r) else foldGo (foldStep d r).1 l
def foldD (l : List Rcd) : Dsk × Int := foldGo newD l
end Go.Proofs.YtpdcfljbabpakaaGreatDoor
set_option linter.unusedVariables false
set_option linter.unusedSimpArgs false
set_option maxRecDepth 100000
set_option maxHeartbeats 8000000
namespace Go.Proofs.YtpdcfljbabpakaaGreatDoor
open Go Go.RowKit Go.Proofs.AE
theorem foldGo_app : ∀ (a b : List Rcd) (d : Dsk), (foldGo d a).2 = 0 → foldGo d (a ++ b) = foldGo (foldGo d a).1 b
  | [], b, d, _ => rfl
  | r :: a, b, d, h => by
    have e : ∀ l, foldGo d (r :: l) = if (foldStep d r).2 ≠ 0 then foldStep d r else foldGo (foldStep d r).1 l := fun l => rfl
    rw [e] at h
    rw [List.cons_append, e, e]
    by_cases hs : (foldStep d r).2 ≠ 0
    · rw [if_pos hs] at h; exact absurd h hs
    · rw [if_neg hs] at h
      rw [if_neg hs, if_neg hs]; exact foldGo_app a b (foldStep d r).1 h
theorem foldGo_one (d : Dsk) (r : Rcd) : foldGo d [r] = foldStep d r := by
  unfold foldGo
  split
  · rfl
  · rename_i h
    have : (foldStep d r).2 = 0 := by simpa using h
    simp only [foldGo]
    rw [← this]
def lastT (t : Int) (a : List Item) : Int := match a.getLast? with | some y => y.term | none => t
def lastM (m : Int) (a : List Item) : Int := match a.getLast? with | some y => y.time | none => m
theorem lastT_cons (t : Int) (x : Item) (a : List Item) : lastT t (x :: a) = lastT x.term a := by
  unfold lastT; cases a with
  | nil => rfl
  | cons y a => rw [List.getLast?_cons_cons]; simp [List.getLast?_cons]
theorem lastM_cons (t : Int) (x : Item) (a : List Item) : lastM t (x :: a) = lastM x.time a := by
  unfold lastM; cases a with
  | nil => rfl
  | cons y a => rw [List.getLast?_cons_cons]; simp [List.getLast?_cons]
theorem chk_app : ∀ (a b : List Item) (t m : Int), chk (a ++ b) t m = (chk a t m && chk b (lastT t a) (lastM m a))
  | [], b, t, m => rfl
  | x :: a, b, t, m => by
    have ih := chk_app a b x.term x.time
    simp only [List.cons_append, chk, ih, lastT_cons, lastM_cons, Bool.and_assoc]
theorem chk_take {x : List Item} {t m : Int} (h : chk x t m = true) (k : Nat) : chk (x.take k) t m = true := by
  rw [← List.take_append_drop k x, chk_app] at h
  simp only [Bool.and_eq_true] at h
  exact h.1
theorem chk_all : ∀ {x : List Item} {t m : Int}, chk x t m = true → ∀ y ∈ x, y.check = 0 ∧ t ≤ y.term ∧ m ≤ y.time
  | [], _, _, _, y, hy => by cases hy
  | x :: l, t, m, h, y, hy => by
    simp only [chk, Bool.and_eq_true, beq_iff_eq, decide_eq_true_eq] at h
    rcases List.mem_cons.1 hy with rfl | hy
    · exact ⟨h.1, h.2.1, h.2.2.1⟩
    · obtain ⟨a, b, c⟩ := chk_all h.2.2.2 y hy
      exact ⟨a, by omega, by omega⟩
theorem log0_iff {x : List Item} : checkLog 0 0 x = 0 ↔ x.length ≤ 200 ∧ chk x 0 0 = true := by
  unfold checkLog headOk
  constructor
  · intro h
    split at h
    · rename_i hh
      split at h
      · rename_i hc
        simp at hh
        exact ⟨by omega, hc⟩
      · cases h
    · cases h
  · rintro ⟨h1, h2⟩
    rw [if_pos (by simp; omega), if_pos h2]
theorem log0_take {x : List Item} (h : checkLog 0 0 x = 0) (k : Nat) : checkLog 0 0 (x.take k) = 0 := by
  obtain ⟨h1, h2⟩ := log0_iff.1 h
  exact log0_iff.2 ⟨by rw [List.length_take]; omega, chk_take h2 k⟩
def lineRc (i : Nat) (x : Item) : Rcd := ⟨2, 0, 0, (i : Int) + 1, x, 0, 0, zeroM⟩
def linesR (x : List Item) : List Rcd := x.mapIdx lineRc
theorem linesR_snoc (x : List Item) (y : Item) : linesR (x ++ [y]) = linesR x ++ [lineRc x.length y] := by unfold linesR; rw [List.mapIdx_append]; simp
theorem lineRc_ok {i : Nat} {x : Item} (hi : i < 1000000) (hx : x.check = 0) : checkRc (lineRc i x) = 0 := by
  have hn : okNumber ((i : Int) + 1) = true := by unfold okNumber; simp; omega
  have hs : noSnap (lineRc i x) = true := rfl
  unfold checkRc
  rw [hs]
  simp [lineRc, hn, hx]
theorem line_end {g : List Item} {x : Item} (h : checkLog 0 0 (g ++ [x]) = 0) {d : Dsk} (hd : d.log = ⟨0, 0, g⟩) : foldStep d (lineRc g.length x) = ({ d with log := ⟨0, 0, g ++ [x]⟩ }, 0) := by
  obtain ⟨h1, h2⟩ := log0_iff.1 h
  have hx := (chk_all h2 x (by simp)).1
  have hr := lineRc_ok (i := g.length) (by simp at h1; omega) hx
  have hl : lineD d.log (lineRc g.length x).index (lineRc g.length x).item = (⟨0, 0, g ++ [x]⟩, 0) := by
    rw [hd]
    unfold lineD lineRc
    simp only
    rw [if_neg (by omega), if_neg (by omega)]
    have e : ((g.length : Int) + 1 - 0 - 1).toNat = g.length := by omega
    rw [e, List.take_length, if_neg (by rw [h]; simp)]
  unfold foldStep
  rw [if_neg (by rw [hr]; simp), if_neg (by show ¬ (2 : Int) = 1; omega), if_pos (show (lineRc _ _).kind = 2 from rfl), hl, if_neg (by simp)]
theorem fold_lines (x : List Item) (h : checkLog 0 0 x = 0) : foldGo newD (linesR x) = ({ newD with log := ⟨0, 0, x⟩ }, 0) := by
  suffices ∀ k, k ≤ x.length → foldGo newD (linesR (x.take k)) = ({ newD with log := ⟨0, 0, x.take k⟩ }, 0) by
    have := this x.length (Nat.le_refl _)
    rwa [List.take_length] at this
  intro k
  induction k with
  | zero => intro _; rfl
  | succ k ih =>
    intro hk
    have ih := ih (by omega)
    have hlt : k < x.length := by omega
    have hlen : (x.take k).length = k := by rw [List.length_take]; omega
    have h2 := log0_take h (k + 1)
    rw [List.take_succ_eq_append_getElem hlt] at h2 ⊢
    rw [linesR_snoc, foldGo_app _ _ _ (by rw [ih]), ih, foldGo_one, line_end h2 rfl]
def loadRc (i t : Int) (m : Mach) : Rcd := ⟨3, 0, 0, 0, zeroItem, i, t, m⟩
theorem loadRc_ok {i t : Int} {m : Mach} (hi : 1 ≤ i ∧ i ≤ 1048576) (ht : 1 ≤ t ∧ t ≤ 1048576) (hm : OkM m) : checkRc (loadRc i t m) = 0 := by
  have h1 : okNumber i = true := by unfold okNumber; simp; omega
  have h2 : okNumber t = true := by unfold okNumber; simp; omega
  unfold checkRc checkSnap
  simp [loadRc, h1, h2, checkM_iff.2 hm]
theorem load_step {i t : Int} {m : Mach} (hi : 1 ≤ i ∧ i ≤ 1048576) (ht : 1 ≤ t ∧ t ≤ 1048576) (hm : OkM m) (d : Dsk) :
    foldStep d (loadRc i t m) = (if d.sidx < i then { d with sidx := i, sterm := t, mach := m, log := restD d.log i t } else d, 0) := by
  unfold foldStep
  rw [if_neg (by rw [loadRc_ok hi ht hm]; simp), if_neg (by show ¬ (3 : Int) = 1; omega), if_neg (by show ¬ (3 : Int) = 2; omega)]
  by_cases h : d.sidx < i
  · rw [if_pos (show d.sidx < (loadRc i t m).sidx from h), if_pos h]; rfl
  · rw [if_neg (show ¬ d.sidx < (loadRc i t m).sidx from h), if_neg h]
structure OkD (d : Dsk) : Prop where
  log : d.log.check = 0
  mach : OkM d.mach
theorem newM_ok : OkM newM := by
  refine checkM_iff.1 ?_
  decide
theorem newD_ok : OkD newD := ⟨by decide, newM_ok⟩
theorem chk_drop {x : List Item} {t m : Int} (h : chk x t m = true) (k : Nat) {t' : Int} (ht : ∀ y, (x.take k).getLast? = some y → t' ≤ y.term) (hk : 0 < k) (hl : k ≤ x.length) : chk (x.drop k) t' 0 = true := by
  rw [← List.take_append_drop k x, chk_app] at h
  simp only [Bool.and_eq_true] at h
  obtain ⟨y, hy⟩ : ∃ y, (x.take k).getLast? = some y := by
    cases hq : (x.take k).getLast? with
    | some y => exact ⟨y, rfl⟩
    | none =>
      rw [List.getLast?_eq_none_iff] at hq
      have := congrArg List.length hq
      rw [List.length_take, List.length_nil] at this
      omega
  have h2 := h.2
  have e1 : lastT t (x.take k) = y.term := by unfold lastT; rw [hy]
  have e2 : lastM m (x.take k) = y.time := by unfold lastM; rw [hy]
  rw [e1, e2] at h2
  have ht := ht y hy
  cases hd : x.drop k with
  | nil => rfl
  | cons z l =>
    rw [hd] at h2
    simp only [chk, Bool.and_eq_true, beq_iff_eq, decide_eq_true_eq] at h2 ⊢
    have hym : y ∈ x := List.mem_of_mem_take (List.mem_of_getLast? hy)
    obtain ⟨a, b, c, e⟩ := h2
    obtain ⟨_, _, _, d2⟩ : 1 ≤ z.term ∧ z.term ≤ 1048576 ∧ 0 ≤ z.time ∧ z.time ≤ 1073741824 := by
      have := item_ok a; exact ⟨this.1, this.2.1, this.2.2.1, this.2.2.2.1⟩
    exact ⟨a, by omega, by omega, e⟩
theorem checkLog_iff {base bt : Int} {x : List Item} : checkLog base bt x = 0 ↔ (0 ≤ base ∧ 0 ≤ bt ∧ bt ≤ 1048576 ∧ (base = 0 ↔ bt = 0) ∧ x.length ≤ 200 ∧ base ≤ 1048576 - x.length) ∧ chk x bt 0 = true := by
  unfold checkLog headOk
  constructor
  · intro h
    split at h
    · rename_i hh
      split at h
      · rename_i hc
        simp at hh
        refine ⟨⟨by omega, by omega, by omega, ?_, by omega, by omega⟩, hc⟩
        have := hh.2.2.2.1
        constructor <;> intro h <;> simp_all
      · cases h
    · cases h
  · rintro ⟨⟨h1, h2, h3, h4, h5, h6⟩, h7⟩
    rw [if_pos ?_, if_pos h7]
    simp
    refine ⟨by omega, by omega, by omega, ?_, by omega, by omega⟩
    rw [Bool.eq_iff_iff]; simpa using h4
theorem restD_ok {g : Lg} (h : g.check = 0) {i t : Int} (hi : 1 ≤ i ∧ i ≤ 1048576) (ht : 1 ≤ t ∧ t ≤ 1048576) : (restD g i t).check = 0 := by
  unfold Lg.check at h ⊢
  obtain ⟨⟨h1, h2, h3, h4, h5, h6⟩, h7⟩ := checkLog_iff.1 h
  unfold restD
  split
  · rename_i hc
    obtain ⟨c1, c2⟩ := hc
    have hr := termErr_range c1
    refine checkLog_iff.2 ⟨⟨by show 0 ≤ i; omega, by show 0 ≤ t; omega, by show t ≤ _; omega, by show i = 0 ↔ t = 0; omega, by simp; omega, by show i ≤ _; simp; omega⟩, ?_⟩
    show chk (g.items.drop (i - g.base).toNat) t 0 = true
    by_cases h0 : i = g.base
    · rw [h0] at c2 ⊢
      have : t = g.bt := by rw [← c2]; unfold termAt; rw [if_neg (by omega), if_pos rfl]
      rw [this]
      simpa using h7
    · refine chk_drop h7 _ ?_ (by omega) (by omega)
      intro y hy
      unfold termAt at c2
      rw [if_neg (by omega), if_neg h0, if_neg (by omega)] at c2
      have e : (i - g.base - 1).toNat = (i - g.base).toNat - 1 := by omega
      rw [List.getLast?_eq_getElem?, List.length_take, Nat.min_eq_left (by omega), List.getElem?_take, if_pos (by omega), ← e] at hy
      rw [hy] at c2
      simp only at c2
      omega
  · refine checkLog_iff.2 ⟨⟨by show 0 ≤ i; omega, by show 0 ≤ t; omega, by show t ≤ _; omega, by show i = 0 ↔ t = 0; omega, by simp, by show i ≤ _; simp; omega⟩, rfl⟩
theorem lineD_ok {g : Lg} (h : g.check = 0) (p : Int) (x : Item) : (lineD g p x).1.check = 0 := by
  unfold lineD
  split
  · exact h
  · split
    · exact h
    · split
      · exact h
      · rename_i h3
        exact Classical.not_not.1 h3
theorem step_ok {d : Dsk} (h : OkD d) (r : Rcd) (he : (foldStep d r).2 = 0) : OkD (foldStep d r).1 := by
  unfold foldStep at he ⊢
  by_cases h1 : checkRc r ≠ 0
  · rw [if_pos h1] at he; exact absurd he h1
  · rw [if_neg h1] at he ⊢
    have hr := Classical.not_not.1 h1
    by_cases h2 : r.kind = 1
    · rw [if_pos h2]; exact ⟨h.log, h.mach⟩
    · rw [if_neg h2] at he ⊢
      by_cases h3 : r.kind = 2
      · rw [if_pos h3] at he ⊢
        by_cases h4 : (lineD d.log r.index r.item).2 ≠ 0
        · rw [if_pos h4] at he; exact absurd he h4
        · rw [if_neg h4]; exact ⟨lineD_ok h.log _ _, h.mach⟩
      · rw [if_neg h3]
        split
        · rcases rc_cases hr with ⟨t, f, rfl, _⟩ | ⟨i, x, rfl, _⟩ | ⟨i, t, m, rfl, a, b, c⟩
          · exact absurd rfl h2
          · exact absurd rfl h3
          · unfold okNumber at a b
            simp at a b
            exact ⟨restD_ok h.log (by omega) (by omega), c⟩
        · exact h
end Go.Proofs.YtpdcfljbabpakaaGreatDoor
set_option linter.unusedVariables false
set_option linter.unusedSimpArgs false
set_option maxRecDepth 100000
set_option maxHeartbeats 8000000
namespace Go.Proofs.YtpdcfljbabpakaaGreatDoor
open Go Go.RowKit Go.Proofs.AE
variable {G : Nat → AV}
theorem weak_thaw {k : Nat} {s : S} (b o e m : Nat) {t : TypeId} {cs : List C} (h1 : s.hp[b]? = some (some (.box t cs))) (h2 : cs[o]? = some .nil) (hm : 0 < m) :
    Weak k s { s with hp := s.hp.set b (some (.box t (cs.set o (.ar s.hp.length)))) ++ [some (.arr e m [])] } :=
  ⟨rfl, fun n w ok μ a hst => ⟨ok, _, hst.step (hr_thaw hst.hr h1 h2 hm), (hr_thaw hst.hr h1 h2 hm).far⟩⟩
def tstE (now : Int) (p : Option Ent) (e : Ent) : Bool := !okField e.key || checkV e.val != 0 || (match p with | some p => !decide (cmpB p.key e.key < 0) | none => false) || (e.till != 0 && (decide (e.till ≤ now) || decide (1073741824 < e.till)))
def chkE (now : Int) : Option Ent → List Ent → Int
  | _, [] => 0
  | p, e :: r => if tstE now p e = true then 13 else chkE now (some e) r
theorem chkE_eq (now : Int) : ∀ (l : List Ent) (p : Option Ent), chkE now p l = if l.any (entBad now) = true then 13 else if rising bE ((match p with | some p => [p] | none => []) ++ l) = true then 0 else 13
  | [], p => by cases p <;> rfl
  | e :: r, p => by
    have ih := chkE_eq now r (some e)
    unfold chkE tstE
    rw [ih]
    have hb : entBad now e = (!okField e.key || checkV e.val != 0 || (e.till != 0 && (decide (e.till ≤ now) || decide (1073741824 < e.till)))) := rfl
    cases p with
    | none =>
      simp only [List.any_cons, hb, List.nil_append, List.singleton_append]
      cases (!okField e.key || checkV e.val != 0) <;> cases (e.till != 0 && (decide (e.till ≤ now) || decide (1073741824 < e.till))) <;> simp
    | some p =>
      have hr : rising bE ([p] ++ e :: r) = (decide (bE p e < 0) && rising bE (e :: r)) := rfl
      have hr2 : rising bE (p :: e :: r) = (decide (bE p e < 0) && rising bE (e :: r)) := rfl
      simp only [List.any_cons, hb, hr, List.singleton_append]
      have hd : decide (cmpB p.key e.key < 0) = decide (bE p e < 0) := rfl
      rw [hd]
      cases (!okField e.key || checkV e.val != 0) <;> cases (e.till != 0 && (decide (e.till ≤ now) || decide (1073741824 < e.till))) <;> cases hbe : decide (bE p e < 0) <;> simp [hr2, hbe]
theorem okField_alt (s : ByteArray) : okField s = !(decide ((s.size : Int) < 1) || decide (12 < (s.size : Int))) := by
  unfold okField
  rw [Bool.eq_iff_iff]
  simp <;> omega
def prevE (l : List Ent) (i : Nat) : Option Ent := if i = 0 then none else l[i - 1]?
theorem chkE_drop (now : Int) {l : List Ent} {i : Nat} {e : Ent} (h : l[i]? = some e) : chkE now (prevE l i) (l.drop i) = if tstE now (prevE l i) e = true then 13 else chkE now (prevE l (i + 1)) (l.drop (i + 1)) := by
  have hl := (List.getElem?_eq_some_iff.1 h).1
  have hx := (List.getElem?_eq_some_iff.1 h).2
  rw [List.drop_eq_getElem_cons hl, hx]
  have hp : prevE l (i + 1) = some e := by unfold prevE; simpa using h
  rw [hp]
  rfl
theorem checkS_chk (s : Sto) : checkS s = if s.now < 0 ∨ 1073741824 < s.now ∨ 12 < s.ents.length then 13 else chkE s.now none s.ents := by
  unfold checkS
  rw [chkE_eq]
  rfl
theorem checkS_c (s : Sto) (hs : s.Small) : PCall Tryz.prog G 77 [.agg s.c] (iV (checkS s)) := by
  obtain ⟨now, l⟩ := s
  obtain ⟨s1, s2⟩ := hs
  simp only at s1 s2
  rw [checkS_chk]
  simp only [Sto.c]
  by_cases hb : now < 0 ∨ 1073741824 < now ∨ 12 < l.length
  · rw [if_pos hb]
    refine pcallc mixed Tryz.func77 ac_store_Check ?_
    repeat' (first | (with_reducible first | refine Cn (fun h => ?_) fun h => ?_ | refine And.intro ?_ ?_ | refine wR ?_ | exact wr _ _ | refine wa ?_ | apply awp_join) | (with_reducible refine CallZ.z ?_) | simp -dsimp [go_sem])
    all_goals (exfalso; clear s2; simp at *; omega)
  · rw [if_neg hb]
    have b1 : decide (now < 0) = false := by simp; omega
    have b2 : decide (1073741824 < now) = false := by simp; omega
    have b3 : decide (12 < (l.length : Int)) = false := by simp; omega
    refine pcallc mixed Tryz.func77 ac_store_Check ?_
    repeat' (first | (with_reducible first | refine Cn (fun h => ?_) fun h => ?_ | refine And.intro ?_ ?_ | refine wR ?_ | exact wr _ _ | refine wa ?_ | apply awp_join) | (with_reducible refine CallZ.z ?_) | simp -dsimp [go_sem, b1, b2, b3])
    refine awp_loop (fun i : Nat => ⟨[(1, .one (.ptr 0 0)), (20, .one (.v (.sl (eR l)))), (21, iV l.length), (22, iV i)], G, [some (.box 25 [iC now, .v (.sl (eR l))])]⟩) (fun i => i ≤ l.length ∧ chkE now none l = chkE now (prevE l i) (l.drop i)) (fun i => l.length - i) 0 (weak_auto ?_) ⟨Nat.zero_le _, rfl⟩ ?_
    · simp -dsimp [go_sem]
    · rintro i ⟨hi, hx⟩
      rw [hx]
      by_cases hlt : i < l.length
      · obtain ⟨e, he⟩ : ∃ e, l[i]? = some e := ⟨_, List.getElem?_eq_getElem hlt⟩
        have e4 : IntKind.i64.wrap ((i : Int) + 1) = (i : Int) + 1 := IntWalk.i64_in _ (by omega)
        have q1 : decide (i < l.length) = true := by simpa using hlt
        have hcv := checkV_c (G := G) e.val (s2 e (List.mem_of_getElem? he))
        rw [chkE_drop now he]
        obtain ⟨T, hT⟩ : ∃ T, tstE now (prevE l i) e = T := ⟨_, rfl⟩
        have hT' := hT
        unfold tstE at hT'
        rw [okField_alt] at hT'
        obtain ⟨N, hN⟩ : ∃ N, chkE now (prevE l (i + 1)) (l.drop (i + 1)) = N := ⟨_, rfl⟩
        rw [hT, hN]
        clear hT
        obtain ⟨V, hV⟩ : ∃ V, checkV e.val = V := ⟨_, rfl⟩
        rw [hV] at hcv hT'
        obtain ⟨key, ⟨vk, vt, vn, vp, vi, vs⟩, till⟩ := e
        simp only [Val.c] at hcv
        simp only at hT'
        have hag : i + 1 ≤ l.length ∧ N = chkE now (prevE l (i + 1)) (l.drop (i + 1)) := ⟨hlt, hN.symm⟩
        by_cases h0 : i = 0
        · have q2 : decide (0 < i) = false := by simp; omega
          have hp : prevE l i = none := by unfold prevE; rw [if_pos h0]
          rw [hp] at hT'
          simp only at hT'
          repeat' (first | (with_reducible first | refine Cn (fun h => ?_) fun h => ?_ | refine And.intro ?_ ?_ | refine wR ?_ | exact wr _ _ | refine wa ?_ | apply awp_join | refine q hcv ?_ | refine qd hcv ?_ | refine qz hcv ?_) | (with_reducible refine CallZ.z ?_) | simp -dsimp [go_sem, he, Ent.row, e4, q1, q2])
          all_goals first
            | omega
            | (have hTt : T = true := by (rw [← hT']; simp [*])
               simp [hTt]; done)
            | (have hTf : T = false := by (rw [← hT']; simp [*])
               rw [hTf]
               refine Again.auto (i + 1) ?_ ?_ ?_
               · simp -dsimp [go_sem]
               · exact hag
               · show l.length - (i + 1) < l.length - i; omega)
        · obtain ⟨j, hj⟩ : ∃ j, i = j + 1 := ⟨i - 1, by omega⟩
          have q2 : decide (0 < i) = true := by simp; omega
          obtain ⟨p, hpj⟩ : ∃ p, l[j]? = some p := ⟨_, List.getElem?_eq_getElem (by omega)⟩
          have hp : prevE l i = some p := by unfold prevE; rw [if_neg h0, hj]; simpa using hpj
          rw [hp] at hT'
          have e5 : IntKind.i64.wrap ((i : Int) - 1) = (j : Int) := by rw [IntWalk.i64_in _ (by omega)]; omega
          have e6 : lessB p.key key = decide (cmpB p.key key < 0) := lessB_eq _ _
          obtain ⟨pkey, ⟨wk, wt, wn, wp, wi, ws⟩, ptill⟩ := p
          simp only at hT' e6
          repeat' (first | (with_reducible first | refine Cn (fun h => ?_) fun h => ?_ | refine And.intro ?_ ?_ | refine wR ?_ | exact wr _ _ | refine wa ?_ | apply awp_join | refine q hcv ?_ | refine qd hcv ?_ | refine qz hcv ?_) | (with_reducible refine CallZ.z ?_) | simp -dsimp [go_sem, he, hpj, Ent.row, e4, e5, q1, q2, e6])
          all_goals first
            | omega
            | (have hTt : T = true := by (rw [← hT']; simp [*])
               simp [hTt]; done)
            | (have hTf : T = false := by (rw [← hT']; simp [*])
               rw [hTf]
               refine Again.auto (i + 1) ?_ ?_ ?_
               · simp -dsimp [go_sem]
               · exact hag
               · show l.length - (i + 1) < l.length - i; omega)
      · have hn : l.drop i = [] := List.drop_eq_nil_of_le (by omega)
        have q1 : decide (i < l.length) = false := by simpa using hlt
        rw [hn]
        unfold chkE
        repeat' (first | (with_reducible first | refine Cn (fun h => ?_) fun h => ?_ | refine And.intro ?_ ?_ | refine wR ?_ | exact wr _ _ | refine wa ?_ | apply awp_join) | (with_reducible refine CallZ.z ?_) | simp -dsimp [go_sem, q1])
end Go.Proofs.YtpdcfljbabpakaaGreatDoor
set_option linter.unusedVariables false
set_option linter.unusedSimpArgs false
set_option maxRecDepth 100000
set_option maxHeartbeats 8000000
namespace Go.Proofs.YtpdcfljbabpakaaGreatDoor
open Go Go.RowKit Go.Proofs.AE
variable {G : Nat → AV}
theorem ul_str (l : List ByteArray) : UL 1 (strRows l) := by
  intro r hr
  obtain ⟨y, _, rfl⟩ := List.mem_map.1 hr
  rfl
theorem checkR_c (r : Rep) : PCall Tryz.prog G 78 [.agg r.c] (iV (checkR r)) := checkReply_c r.code r.text r.n r.list
theorem checkCl_c (c : Cal) : PCall Tryz.prog G 79 [.agg c.c] (iV (checkCl c)) := checkCall_c c.client c.seq c.cmd.kind c.cmd.key c.cmd.field c.cmd.text c.cmd.n
def tstC (next now : Int) (p : Option Cli) (x : Cli) : Bool := decide (x.id < 1) || decide (next ≤ x.id) || (match p with | some p => decide (x.id ≤ p.id) | none => false) || decide (x.seq < 0) || decide (1048576 < x.seq) || decide (x.time < 0) || decide (now < x.time) || (checkR x.reply != 0)
def chkC (next now : Int) : Option Cli → List Cli → Int
  | _, [] => 0
  | p, x :: r => if tstC next now p x = true then 13 else chkC next now (some x) r
theorem tstC_eq (next now : Int) (p : Option Cli) (x : Cli) : tstC next now p x = (badC next now x || (match p with | some p => !decide (cI p x < 0) | none => false)) := by
  unfold tstC badC cI
  cases p with
  | none => simp
  | some p =>
    have : decide (x.id ≤ p.id) = !decide (p.id - x.id < 0) := by
      by_cases h : x.id ≤ p.id
      · have h2 : ¬ p.id - x.id < 0 := by omega
        simp [h, h2]
      · have h2 : p.id - x.id < 0 := by omega
        simp [h, h2]
    simp only [this]
    generalize (!decide (p.id - x.id < 0)) = b
    cases b <;> simp
theorem chkC_eq (next now : Int) : ∀ (l : List Cli) (p : Option Cli), chkC next now p l = if l.any (badC next now) = true then 13 else if rising cI ((match p with | some p => [p] | none => []) ++ l) = true then 0 else 13
  | [], p => by cases p <;> rfl
  | x :: r, p => by
    have ih := chkC_eq next now r (some x)
    unfold chkC
    rw [ih, tstC_eq]
    cases p with
    | none =>
      obtain ⟨b, hb⟩ : ∃ b, badC next now x = b := ⟨_, rfl⟩
      rw [List.any_cons, hb]
      cases b <;> simp
    | some p =>
      have hr : rising cI ([p] ++ x :: r) = (decide (cI p x < 0) && rising cI (x :: r)) := rfl
      obtain ⟨b, hb⟩ : ∃ b, badC next now x = b := ⟨_, rfl⟩
      obtain ⟨d, hd⟩ : ∃ d, decide (cI p x < 0) = d := ⟨_, rfl⟩
      simp only [List.any_cons, hr, hb, hd]
      cases b <;> cases d <;> simp
def prevC (l : List Cli) (i : Nat) : Option Cli := if i = 0 then none else l[i - 1]?
theorem chkC_drop (next now : Int) {l : List Cli} {i : Nat} {x : Cli} (h : l[i]? = some x) : chkC next now (prevC l i) (l.drop i) = if tstC next now (prevC l i) x = true then 13 else chkC next now (prevC l (i + 1)) (l.drop (i + 1)) := by
  have hl := (List.getElem?_eq_some_iff.1 h).1
  have hx := (List.getElem?_eq_some_iff.1 h).2
  rw [List.drop_eq_getElem_cons hl, hx]
  have hp : prevC l (i + 1) = some x := by unfold prevC; simpa using h
  rw [hp]
  rfl
theorem checkM_chk (m : Mach) : checkM m = if checkS m.sto ≠ 0 ∨ m.next < 1 ∨ 1048577 < m.next ∨ 4 < m.clis.length then 13 else chkC m.next m.sto.now none m.clis := by
  unfold checkM
  rw [chkC_eq]
  rfl
theorem checkM_c (m : Mach) (hs : m.sto.Small) (hl : m.clis.length ≤ 1000000) : PCall Tryz.prog G 41 [.agg m.c] (iV (checkM m)) := by
  have hcs := checkS_c (G := G) m.sto hs
  rw [checkM_chk]
  obtain ⟨V, hV⟩ : ∃ V, checkS m.sto = V := ⟨_, rfl⟩
  rw [hV] at hcs ⊢
  obtain ⟨⟨now, ents⟩, next, l⟩ := m
  simp only at hl
  simp only [Mach.c, Sto.c] at hcs ⊢
  by_cases hb : V ≠ 0 ∨ next < 1 ∨ 1048577 < next ∨ 4 < l.length
  · rw [if_pos hb]
    by_cases b0 : V ≠ 0
    · have q0 : (V != 0) = true := by simpa using b0
      refine pcallc mixed Tryz.func41 ac_client_Check ?_
      repeat' (first | (with_reducible first | refine Cn (fun h => ?_) fun h => ?_ | refine And.intro ?_ ?_ | refine wR ?_ | exact wr _ _ | refine wa ?_ | apply awp_join | refine q hcs ?_ | refine qd hcs ?_ | refine qz hcs ?_) | (with_reducible refine CallZ.z ?_) | simp -dsimp [go_sem, q0])
    · have q0 : (V != 0) = false := by simpa using b0
      by_cases b1 : next < 1
      · have q1 : decide (next < 1) = true := by simpa using b1
        refine pcallc mixed Tryz.func41 ac_client_Check ?_
        repeat' (first | (with_reducible first | refine Cn (fun h => ?_) fun h => ?_ | refine And.intro ?_ ?_ | refine wR ?_ | exact wr _ _ | refine wa ?_ | apply awp_join | refine q hcs ?_ | refine qd hcs ?_ | refine qz hcs ?_) | (with_reducible refine CallZ.z ?_) | simp -dsimp [go_sem, q0, q1])
      · have q1 : decide (next < 1) = false := by simpa using b1
        by_cases b2 : 1048577 < next
        · have q2 : decide (1048577 < next) = true := by simpa using b2
          refine pcallc mixed Tryz.func41 ac_client_Check ?_
          repeat' (first | (with_reducible first | refine Cn (fun h => ?_) fun h => ?_ | refine And.intro ?_ ?_ | refine wR ?_ | exact wr _ _ | refine wa ?_ | apply awp_join | refine q hcs ?_ | refine qd hcs ?_ | refine qz hcs ?_) | (with_reducible refine CallZ.z ?_) | simp -dsimp [go_sem, q0, q1, q2])
        · have q2 : decide (1048577 < next) = false := by simpa using b2
          have q3 : decide (4 < (l.length : Int)) = true := by simp; omega
          refine pcallc mixed Tryz.func41 ac_client_Check ?_
          repeat' (first | (with_reducible first | refine Cn (fun h => ?_) fun h => ?_ | refine And.intro ?_ ?_ | refine wR ?_ | exact wr _ _ | refine wa ?_ | apply awp_join | refine q hcs ?_ | refine qd hcs ?_ | refine qz hcs ?_) | (with_reducible refine CallZ.z ?_) | simp -dsimp [go_sem, q0, q1, q2, q3])
  · rw [if_neg hb]
    simp only [not_or, Classical.not_not] at hb
    have q0 : (V != 0) = false := by simpa using hb.1
    have q1 : decide (next < 1) = false := by simp; omega
    have q2 : decide (1048577 < next) = false := by simp; omega
    have q3 : decide (4 < (l.length : Int)) = false := by simp; omega
    refine pcallc mixed Tryz.func41 ac_client_Check ?_
    repeat' (first | (with_reducible first | refine Cn (fun h => ?_) fun h => ?_ | refine And.intro ?_ ?_ | refine wR ?_ | exact wr _ _ | refine wa ?_ | apply awp_join | refine q hcs ?_ | refine qd hcs ?_ | refine qz hcs ?_) | (with_reducible refine CallZ.z ?_) | simp -dsimp [go_sem, q0, q1, q2, q3])
    refine awp_loop (fun i : Nat => ⟨[(1, .one (.ptr 0 0)), (26, .one (.v (.sl (clR l)))), (27, iV l.length), (28, iV i)], G, [some (.box 28 [iC now, .v (.sl (eR ents)), iC next, .v (.sl (clR l))])]⟩) (fun i => i ≤ l.length ∧ chkC next now none l = chkC next now (prevC l i) (l.drop i)) (fun i => l.length - i) 0 (weak_auto ?_) ⟨Nat.zero_le _, rfl⟩ ?_
    · simp -dsimp [go_sem]
    · rintro i ⟨hi, hx⟩
      rw [hx]
      by_cases hlt : i < l.length
      · obtain ⟨x, he⟩ : ∃ x, l[i]? = some x := ⟨_, List.getElem?_eq_getElem hlt⟩
        have e4 : IntKind.i64.wrap ((i : Int) + 1) = (i : Int) + 1 := IntWalk.i64_in _ (by omega)
        have q4 : decide (i < l.length) = true := by simpa using hlt
        have hcr := checkR_c (G := G) x.reply
        rw [chkC_drop next now he]
        obtain ⟨T, hT⟩ : ∃ T, tstC next now (prevC l i) x = T := ⟨_, rfl⟩
        have hT' := hT
        unfold tstC at hT'
        obtain ⟨N, hN⟩ : ∃ N, chkC next now (prevC l (i + 1)) (l.drop (i + 1)) = N := ⟨_, rfl⟩
        rw [hT, hN]
        clear hT
        obtain ⟨R, hR⟩ : ∃ R, checkR x.reply = R := ⟨_, rfl⟩
        rw [hR] at hcr hT'
        obtain ⟨id, seq, time, ⟨rc, rt, rn, rl⟩⟩ := x
        simp only [Rep.c] at hcr
        simp only at hT'
        have hag : i + 1 ≤ l.length ∧ N = chkC next now (prevC l (i + 1)) (l.drop (i + 1)) := ⟨hlt, hN.symm⟩
        by_cases h0 : i = 0
        · have q5 : decide (0 < i) = false := by simp; omega
          have hp : prevC l i = none := by unfold prevC; rw [if_pos h0]
          rw [hp] at hT'
          simp only at hT'
          repeat' (first | (with_reducible first | refine Cn (fun h => ?_) fun h => ?_ | refine And.intro ?_ ?_ | refine wR ?_ | exact wr _ _ | refine wa ?_ | apply awp_join | refine q hcr ?_ | refine qd hcr ?_ | refine qz hcr ?_) | (with_reducible refine CallZ.z ?_) | simp -dsimp [go_sem, he, Cli.row, e4, q4, q5])
          all_goals first
            | omega
            | (have hTt : T = true := by (rw [← hT']; simp [*])
               simp [hTt]; done)
            | (have hTf : T = false := by (rw [← hT']; simp [*])
               rw [hTf]
               refine Again.auto (i + 1) ?_ ?_ ?_
               · simp -dsimp [go_sem]
               · exact hag
               · show l.length - (i + 1) < l.length - i; omega)
            | trace_state
        · have q5 : decide (0 < i) = true := by simp; omega
          obtain ⟨j, hj⟩ : ∃ j, i = j + 1 := ⟨i - 1, by omega⟩
          obtain ⟨p, hpj⟩ : ∃ p, l[j]? = some p := ⟨_, List.getElem?_eq_getElem (by omega)⟩
          have hp : prevC l i = some p := by unfold prevC; rw [if_neg h0, hj]; simpa using hpj
          rw [hp] at hT'
          have e5 : IntKind.i64.wrap ((i : Int) - 1) = (j : Int) := by rw [IntWalk.i64_in _ (by omega)]; omega
          obtain ⟨pid, pseq, ptime, ⟨pc, pt, pn, pl⟩⟩ := p
          simp only at hT'
          repeat' (first | (with_reducible first | refine Cn (fun h => ?_) fun h => ?_ | refine And.intro ?_ ?_ | refine wR ?_ | exact wr _ _ | refine wa ?_ | apply awp_join | refine q hcr ?_ | refine qd hcr ?_ | refine qz hcr ?_) | (with_reducible refine CallZ.z ?_) | simp -dsimp [go_sem, he, hpj, Cli.row, e4, e5, q4, q5])
          all_goals first
            | omega
            | (have hTt : T = true := by (rw [← hT']; simp [*])
               simp [hTt]; done)
            | (have hTf : T = false := by (rw [← hT']; simp [*])
               rw [hTf]
               refine Again.auto (i + 1) ?_ ?_ ?_
               · simp -dsimp [go_sem]
               · exact hag
               · show l.length - (i + 1) < l.length - i; omega)
            | trace_state
      · have hn : l.drop i = [] := List.drop_eq_nil_of_le (by omega)
        have q4 : decide (i < l.length) = false := by simpa using hlt
        rw [hn]
        unfold chkC
        repeat' (first | (with_reducible first | refine Cn (fun h => ?_) fun h => ?_ | refine And.intro ?_ ?_ | refine wR ?_ | exact wr _ _ | refine wa ?_ | apply awp_join) | (with_reducible refine CallZ.z ?_) | simp -dsimp [go_sem, q4])
end Go.Proofs.YtpdcfljbabpakaaGreatDoor
set_option linter.unusedVariables false
set_option linter.unusedSimpArgs false
set_option maxRecDepth 100000
set_option maxHeartbeats 8000000
namespace Go.Proofs.YtpdcfljbabpakaaGreatDoor
open Go Go.RowKit Go.Proofs.AE
variable {G : Nat → AV}
def Rcd.c (r : Rcd) : List C := [iC r.kind, iC r.term, iC r.fr, iC r.index, iC r.item.term, iC r.item.time, bC r.item.nop, iC r.item.client, iC r.item.seq, iC r.item.k, sC r.item.key, sC r.item.field, sC r.item.text, iC r.item.n, iC r.sidx, iC r.sterm, iC r.mach.sto.now, .v (.sl (eR r.mach.sto.ents)), iC r.mach.next, .v (.sl (clR r.mach.clis))]
def Rcd.row (r : Rcd) : List V := [iL r.kind, iL r.term, iL r.fr, iL r.index, iL r.item.term, iL r.item.time, .lit (.bool r.item.nop), iL r.item.client, iL r.item.seq, iL r.item.k, sL r.item.key, sL r.item.field, sL r.item.text, iL r.item.n, iL r.sidx, iL r.sterm, iL r.mach.sto.now, .sl (eR r.mach.sto.ents), iL r.mach.next, .sl (clR r.mach.clis)]
theorem tnumber_c (n : Int) : PCall Tryz.prog G 40 [iV n] (bV (okNumber n)) := by
  refine pcallc mixed Tryz.func40 ac_tape_number ?_
  unfold okNumber
  repeat' (first | (with_reducible first | refine Cn (fun h => ?_) fun h => ?_ | refine And.intro ?_ ?_ | refine wR ?_ | exact wr _ _ | refine wa ?_ | apply awp_join) | (with_reducible refine CallZ.z ?_) | simp -dsimp [go_sem])
  all_goals first | (simp_all; done) | (intro hh; simp_all)
def noSnapS (i t : Int) (m : Mach) : Bool := i == 0 && (t == 0 && (m.next == 0 && ((m.clis.length : Int) == 0 && (m.sto.now == 0 && (m.sto.ents.length : Int) == 0))))
theorem noSnap_c (i t : Int) (m : Mach) : PCall Tryz.prog G 42 [.agg ([iC i, iC t] ++ m.c)] (bV (noSnapS i t m)) := by
  obtain ⟨⟨now, es⟩, next, cs⟩ := m
  have h1 : (eR es).length = es.length := by simp
  have h2 : (clR cs).length = cs.length := by simp
  unfold noSnapS
  simp only [Mach.c, List.cons_append, List.nil_append]
  refine pcallc mixed Tryz.func42 ac_tape_noSnap ?_
  repeat' (first | (with_reducible first | refine Cn (fun h => ?_) fun h => ?_ | refine And.intro ?_ ?_ | refine wR ?_ | exact wr _ _ | refine wa ?_ | apply awp_join) | (with_reducible refine CallZ.z ?_) | simp -dsimp [go_sem, h1, h2])
  all_goals first | (simp_all; done) | trace_state
theorem len_empty {α : Type} (l : List α) : ((l.length : Int) == 0) = l.isEmpty := by
  cases l with
  | nil => rfl
  | cons a l => rw [List.isEmpty_cons, beq_eq_false_iff_ne, List.length_cons]; omega
theorem noSnapS_eq (r : Rcd) : noSnapS r.sidx r.sterm r.mach = noSnap r := by
  unfold noSnapS noSnap
  have h1 : ((r.mach.clis.length : Int) == 0) = r.mach.clis.isEmpty := len_empty _
  have h2 : ((r.mach.sto.ents.length : Int) == 0) = r.mach.sto.ents.isEmpty := len_empty _
  rw [h1, h2]
  simp only [Bool.and_assoc]
theorem checkSnap_c (i t : Int) (m : Mach) (h1 : m.sto.Small) (h2 : m.clis.length ≤ 1000000) : PCall Tryz.prog G 16 [.agg ([iC i, iC t] ++ m.c)] (iV (checkSnap i t m)) := by
  have hck := checkM_c (G := G) m h1 h2
  have n1 := tnumber_c (G := G) i
  have n2 := tnumber_c (G := G) t
  unfold checkSnap
  generalize checkM m = v at *
  generalize okNumber i = a at *
  generalize okNumber t = b at *
  obtain ⟨⟨now, es⟩, next, cs⟩ := m
  simp only [Mach.c, List.cons_append, List.nil_append] at *
  cases a <;> cases b
  all_goals
    refine pcallc mixed Tryz.func16 ac_tape_CheckSnap ?_
    repeat' (first | (with_reducible first | refine Cn (fun h => ?_) fun h => ?_ | refine And.intro ?_ ?_ | refine wR ?_ | exact wr _ _ | refine wa ?_ | apply awp_join | refine q n1 ?_ | refine qd n1 ?_ | refine qz n1 ?_ | refine q n2 ?_ | refine qd n2 ?_ | refine qz n2 ?_ | refine q hck ?_ | refine qd hck ?_ | refine qz hck ?_) | (with_reducible refine CallZ.z ?_) | simp -dsimp [go_sem])
  all_goals first | (simp_all; done) | trace_state
def zItem (x : Item) : Bool := x.term == 0 && (x.time == 0 && (!x.nop && (x.client == 0 && (x.seq == 0 && (x.k == 0 && (decide (x.key = ⟨#[]⟩) && (decide (x.field = ⟨#[]⟩) && (decide (x.text = ⟨#[]⟩) && x.n == 0))))))))
theorem zItem_iff {x : Item} : zItem x = true ↔ x = zeroItem := by
  obtain ⟨a, b, c, d, e, f, g, h, i, j⟩ := x
  unfold zItem zeroItem
  cases c <;> simp
theorem checkRc_eq (r : Rcd) : checkRc r = if r.kind < 1 ∨ 3 < r.kind then 3
  else if (r.kind ≠ 1 ∧ (r.term ≠ 0 ∨ r.fr ≠ 0)) ∨ (r.kind ≠ 2 ∧ (r.index ≠ 0 ∨ zItem r.item = false)) ∨ (r.kind ≠ 3 ∧ noSnapS r.sidx r.sterm r.mach = false) then 8
  else if r.kind = 1 then (if okNumber r.term = false ∨ r.fr < -1 ∨ 3 ≤ r.fr then 2 else 0)
  else if r.kind = 2 then (if okNumber r.index = false then 2 else r.item.check)
  else checkSnap r.sidx r.sterm r.mach := by
  unfold checkRc
  rw [noSnapS_eq]
  have e : (zItem r.item = false) = (r.item ≠ zeroItem) := by
    rw [← Bool.not_eq_true, zItem_iff]
  simp only [e]
theorem checkRc_c (r : Rcd) (h1 : r.mach.sto.Small) (h2 : r.mach.clis.length ≤ 1000000) : PCall Tryz.prog G 18 [.agg r.c] (iV (checkRc r)) := by
  rw [checkRc_eq]
  obtain ⟨kind, term, fr, index, ⟨xt, xm, xn, xc, xs, xk, xa, xb, xd, xx⟩, sidx, sterm, ⟨⟨now, es⟩, next, cs⟩⟩ := r
  have hcs := checkSnap_c (G := G) sidx sterm ⟨⟨now, es⟩, next, cs⟩ h1 h2
  have hns := noSnap_c (G := G) sidx sterm ⟨⟨now, es⟩, next, cs⟩
  have n1 := tnumber_c (G := G) term
  have n2 := tnumber_c (G := G) index
  have hci := checkItem_c (G := G) xt xm xn xc xs xk xa xb xd xx
  obtain ⟨Z, hZ⟩ : ∃ Z, zItem ⟨xt, xm, xn, xc, xs, xk, xa, xb, xd, xx⟩ = Z := ⟨_, rfl⟩
  simp only [Item.check, Rcd.c, Mach.c, List.cons_append, List.nil_append] at *
  rw [hZ]
  unfold zItem at hZ
  simp only at hZ
  generalize checkSnap sidx sterm ⟨⟨now, es⟩, next, cs⟩ = V at *
  generalize noSnapS sidx sterm ⟨⟨now, es⟩, next, cs⟩ = S at *
  generalize okNumber term = A at *
  generalize okNumber index = B at *
  generalize checkItem xt xm xn xc xs xk xa xb xd xx = I at *
  by_cases k0 : kind < 1 ∨ 3 < kind
  · rw [if_pos k0]
    by_cases k1 : kind < 1
    · have q1 : decide (kind < 1) = true := decide_eq_true k1
      refine pcallc mixed Tryz.func18 ac_tape_Check ?_
      repeat' (first | (with_reducible first | refine Cn (fun h => ?_) fun h => ?_ | refine And.intro ?_ ?_ | refine wR ?_ | exact wr _ _ | refine wa ?_ | apply awp_join) | (with_reducible refine CallZ.z ?_) | simp -dsimp [go_sem, q1])
      all_goals first | done | (simp_all; done) | (simp_all; omega) | ((repeat' split) <;> simp_all <;> omega) | trace_state
    · have q1 : decide (kind < 1) = false := decide_eq_false k1
      have q2 : decide (3 < kind) = true := decide_eq_true (by omega)
      refine pcallc mixed Tryz.func18 ac_tape_Check ?_
      repeat' (first | (with_reducible first | refine Cn (fun h => ?_) fun h => ?_ | refine And.intro ?_ ?_ | refine wR ?_ | exact wr _ _ | refine wa ?_ | apply awp_join) | (with_reducible refine CallZ.z ?_) | simp -dsimp [go_sem, q1, q2])
      all_goals first | done | (simp_all; done) | (simp_all; omega) | ((repeat' split) <;> simp_all <;> omega) | trace_state
  · rw [if_neg k0]
    have q1 : decide (kind < 1) = false := decide_eq_false (by omega)
    have q2 : decide (3 < kind) = false := decide_eq_false (by omega)
    have hk : kind = 1 ∨ kind = 2 ∨ kind = 3 := by omega
    clear k0
    rcases hk with rfl | rfl | rfl
    · refine pcallc mixed Tryz.func18 ac_tape_Check ?_
      repeat' (first | (with_reducible first | refine Cn (fun h => ?_) fun h => ?_ | refine And.intro ?_ ?_ | refine wR ?_ | exact wr _ _ | refine wa ?_ | apply awp_join | refine q hns ?_ | refine qd hns ?_ | refine qz hns ?_ | refine q n1 ?_ | refine qd n1 ?_ | refine qz n1 ?_) | (with_reducible refine CallZ.z ?_) | simp -dsimp [go_sem, hZ])
      all_goals first | done | (simp_all; done) | (simp_all; omega) | ((repeat' split) <;> simp_all <;> omega) | trace_state
    · refine pcallc mixed Tryz.func18 ac_tape_Check ?_
      repeat' (first | (with_reducible first | refine Cn (fun h => ?_) fun h => ?_ | refine And.intro ?_ ?_ | refine wR ?_ | exact wr _ _ | refine wa ?_ | apply awp_join | refine q hns ?_ | refine qd hns ?_ | refine qz hns ?_ | refine q n2 ?_ | refine qd n2 ?_ | refine qz n2 ?_ | refine q hci ?_ | refine qd hci ?_ | refine qz hci ?_) | (with_reducible refine CallZ.z ?_) | simp -dsimp [go_sem, hZ])
      all_goals first | done | (simp_all; done) | (simp_all; omega) | ((repeat' split) <;> simp_all <;> omega) | trace_state
    · refine pcallc mixed Tryz.func18 ac_tape_Check ?_
      repeat' (first | (with_reducible first | refine Cn (fun h => ?_) fun h => ?_ | refine And.intro ?_ ?_ | refine wR ?_ | exact wr _ _ | refine wa ?_ | apply awp_join | refine q hcs ?_ | refine qd hcs ?_ | refine qz hcs ?_) | (with_reducible refine CallZ.z ?_) | simp -dsimp [go_sem, hZ])
      all_goals first | done | (simp_all; done) | (simp_all; omega) | ((repeat' split) <;> simp_all <;> omega) | trace_state
end Go.Proofs.YtpdcfljbabpakaaGreatDoor
set_option linter.unusedVariables false
set_option linter.unusedSimpArgs false
set_option maxRecDepth 100000
set_option maxHeartbeats 8000000
namespace Go.Proofs.YtpdcfljbabpakaaGreatDoor
open Go Go.RowKit Go.Proofs.AE
variable {G : Nat → AV}
theorem flat_succ {α : Type} {g : α → List UInt8} {xs : List α} {i : Nat} {x : α} (h : xs[i]? = some x) : (xs.take (i + 1)).flatMap g = (xs.take i).flatMap g ++ g x := by
  rw [List.take_add_one, h, Option.toList_some, List.flatMap_append]; simp
theorem flat_take {α : Type} {g : α → List UInt8} {b : Nat} {xs : List α} (h : ∀ a ∈ xs, (g a).length ≤ b) (i : Nat) : ((xs.take i).flatMap g).length ≤ xs.length * b := by
  have h1 := flat_len (xs.take i) (fun a ha => h a (List.mem_of_mem_take ha))
  have h2 : (xs.take i).length * b ≤ xs.length * b := Nat.mul_le_mul_right _ (by rw [List.length_take]; omega)
  omega
theorem strRows_at {l : List ByteArray} {i : Nat} {t : ByteArray} (h : l[i]? = some t) : (strRows l)[i]? = some [.lit (.string t)] := by simp [strRows, h]
theorem strRows_length (l : List ByteArray) : (strRows l).length = l.length := by simp [strRows]
theorem textB_le {t : ByteArray} (h : t.size ≤ 255) : (textB t).length ≤ 256 := by rw [textB_len]; omega
theorem wtexts_c (l : List UInt8) (ts : List ByteArray) (hl : l.length ≤ 700000) (hn : ts.length ≤ 255) (ht : ∀ t ∈ ts, t.size ≤ 255) :
    DetCall Tryz.prog G 53 1 (wHp l) [.one (.ptr 0 0), .one (.v (.sl (strRows ts)))] (.tup []) (wHp (l ++ manyB textB ts)) := by
  have hs : l ++ manyB textB ts = l ++ [smallB ts.length] ++ (ts.take ts.length).flatMap textB := by simp [manyB]
  have hfl := flat_take (g := textB) (b := 256) (xs := ts) fun t h => textB_le (ht t h)
  have hsm := wsmall_c (G := G) l ts.length (by omega)
  rw [hs]
  obtain ⟨l0, hl0⟩ : ∃ l0, l ++ [smallB ts.length] = l0 := ⟨_, rfl⟩
  have hl0n : l0.length ≤ 700001 := by rw [← hl0]; simp; omega
  rw [hl0] at hsm ⊢
  have hlen := strRows_length ts
  refine gcallc mixed Tryz.func53 ac_wire_writer_texts ?_
  unfold wHp
  repeat' (first | (with_reducible first | refine Cn (fun h => ?_) fun h => ?_ | refine And.intro ?_ ?_ | refine wR ?_ | exact wr _ _ | refine wa ?_ | apply awp_join | refine qg hsm ?_ | refine qgd hsm ?_) | (with_reducible refine CallZ.z ?_) | simp -dsimp [go_sem, hlen])
  refine awp_loop (fun i : Nat => ⟨[(0, .one (.ptr 0 0)), (10, .one (.v (.sl (strRows ts)))), (11, iV ts.length), (12, iV i)], G, wHp (l0 ++ (ts.take i).flatMap textB)⟩) (fun i => i ≤ ts.length) (fun i => ts.length - i) 0 (weak_auto ?_) (Nat.zero_le _) ?_
  · simp -dsimp [go_sem]
  · intro i hi
    by_cases hil : i < ts.length
    · obtain ⟨t, hx⟩ : ∃ t, ts[i]? = some t := ⟨_, List.getElem?_eq_getElem hil⟩
      have hr := strRows_at hx
      have htt := ht t (List.mem_of_getElem? hx)
      have hfi := hfl i
      have hw := wtext_c (G := G) (l0 ++ (ts.take i).flatMap textB) t (by simp only [List.length_append, List.length_cons, List.length_nil]; omega) (by omega)
      have e1 : l0 ++ (ts.take i).flatMap textB ++ textB t = l0 ++ (ts.take (i + 1)).flatMap textB := by rw [flat_succ hx, List.append_assoc]
      rw [e1] at hw
      have q1 : decide (i < ts.length) = true := by simpa using hil
      have w1 : IntKind.i64.wrap ((i : Int) + 1) = (i : Int) + 1 := IntWalk.i64_in _ (by omega)
      generalize l0 ++ (ts.take i).flatMap textB = a at *
      obtain ⟨b, hb⟩ : ∃ b, l0 ++ (ts.take (i + 1)).flatMap textB = b := ⟨_, rfl⟩
      rw [hb] at hw
      unfold wHp at hw ⊢
      repeat' (first | (with_reducible first | refine Cn (fun h => ?_) fun h => ?_ | refine And.intro ?_ ?_ | refine wR ?_ | exact wr _ _ | refine wa ?_ | apply awp_join | refine qg hw ?_ | refine qgd hw ?_) | (with_reducible refine CallZ.z ?_) | simp -dsimp [go_sem, hr, q1, w1])
      all_goals first
        | omega
        | (refine Again.auto (i + 1) ?_ hil ?_
           · simp -dsimp [go_sem, hb]
           · show ts.length - (i + 1) < ts.length - i; omega)
        | trace_state
    · have q1 : decide (i < ts.length) = false := by simpa using hil
      have hie : i = ts.length := by omega
      rw [hie]
      generalize l0 ++ (ts.take ts.length).flatMap textB = a
      rw [hie] at q1
      unfold wHp
      repeat' (first | (with_reducible first | refine Cn (fun h => ?_) fun h => ?_ | refine And.intro ?_ ?_ | refine wR ?_ | exact wr _ _ | refine wa ?_ | apply awp_join) | (with_reducible refine CallZ.z ?_) | simp -dsimp [go_sem, q1])
      all_goals trace_state
theorem prB_le {p : Pr} (h1 : p.1.size ≤ 255) (h2 : p.2.size ≤ 255) : (prB p).length ≤ 512 := by unfold prB; rw [List.length_append, textB_len, textB_len]; omega
theorem scB_le {s : Sc} (h1 : s.1.size ≤ 255) : (scB s).length ≤ 264 := by unfold scB; rw [List.length_append, textB_len, numB_len]; omega
theorem many_le {α : Type} {g : α → List UInt8} {b : Nat} {l : List α} (hl : l.length ≤ 255) (h : ∀ a ∈ l, (g a).length ≤ b) : (manyB g l).length ≤ 1 + 255 * b := by
  have := many_len h
  have h2 : l.length * b ≤ 255 * b := Nat.mul_le_mul_right _ hl
  omega
theorem valB_split (l : List UInt8) (v : Val) : l ++ valB v = l ++ [smallB v.kind] ++ textB v.text ++ numB v.count ++ [smallB v.pairs.length] ++ v.pairs.flatMap prB ++ manyB textB v.items ++ [smallB v.scores.length] ++ v.scores.flatMap scB := by
  unfold valB manyB; simp
theorem wvalue_c (l : List UInt8) (v : Val) (hl : l.length ≤ 200000) (hv : SizV v) :
    DetCall Tryz.prog G 52 1 (wHp l) [.one (.ptr 0 0), .agg v.c] (.tup []) (wHp (l ++ valB v)) := by
  have hpl := flat_take (g := prB) (b := 512) (xs := v.pairs) fun p h => prB_le (hv.pairs.2 p h).1 (hv.pairs.2 p h).2
  have hsl := flat_take (g := scB) (b := 264) (xs := v.scores) fun p h => scB_le (hv.scores.2 p h).1
  have hil := many_le (g := textB) (b := 256) hv.items.1 fun t h => textB_le (hv.items.2 t h)
  have ht := textB_le hv.text
  have p1 := hv.pairs; have p2 := hv.items; have p3 := hv.scores; have p4 := hv.count; have p5 := hv.text
  rw [valB_split]
  obtain ⟨k, tx, n, ps, is, ss⟩ := v
  simp only [Val.c] at *
  have a1 := wsmall_c (G := G) l k (by omega)
  obtain ⟨x1, h1⟩ : ∃ x, l ++ [smallB k] = x := ⟨_, rfl⟩
  have h1n : x1.length ≤ 200001 := by rw [← h1]; simp; omega
  rw [h1] at a1 ⊢
  have a2 := wtext_c (G := G) x1 tx (by omega) (by omega)
  obtain ⟨x2, h2⟩ : ∃ x, x1 ++ textB tx = x := ⟨_, rfl⟩
  have h2n : x2.length ≤ 200257 := by rw [← h2, List.length_append]; omega
  rw [h2] at a2 ⊢
  have a3 := wnumber_c (G := G) x2 n (by omega) p4
  obtain ⟨x3, h3⟩ : ∃ x, x2 ++ numB n = x := ⟨_, rfl⟩
  have h3n : x3.length ≤ 200265 := by rw [← h3, List.length_append, numB_len]; omega
  rw [h3] at a3 ⊢
  have a4 := wsmall_c (G := G) x3 ps.length (by omega)
  obtain ⟨l0, hl0⟩ : ∃ l0, x3 ++ [smallB ps.length] = l0 := ⟨_, rfl⟩
  have hl0n : l0.length ≤ 200300 := by rw [← hl0]; simp; omega
  rw [hl0] at a4 ⊢
  have hpn : (pR ps).length = ps.length := by simp
  have hsn : (sR ss).length = ss.length := by simp
  refine gcallc mixed Tryz.func52 ac_wire_writer_value ?_
  unfold wHp at *
  repeat' (first | (with_reducible first | refine Cn (fun h => ?_) fun h => ?_ | refine And.intro ?_ ?_ | refine wR ?_ | exact wr _ _ | refine wa ?_ | apply awp_join | refine qg a1 ?_ | refine qgd a1 ?_ | refine qg a2 ?_ | refine qgd a2 ?_ | refine qg a3 ?_ | refine qgd a3 ?_ | refine qg a4 ?_ | refine qgd a4 ?_) | (with_reducible refine CallZ.z ?_) | simp -dsimp [go_sem, hpn])
  refine awp_loop (fun i : Nat => ⟨[(0, .one (.ptr 0 0)), (3, .one (.ptr 2 0)), (26, .one (.v (.sl (pR ps)))), (27, iV ps.length), (28, iV i)], G, wHp (l0 ++ (ps.take i).flatMap prB) ++ [some (.box 117 [iC k, sC tx, iC n, .v (.sl (pR ps)), .v (.sl (strRows is)), .v (.sl (sR ss))])]⟩) (fun i => i ≤ ps.length) (fun i => ps.length - i) 0 (weak_auto ?_) (Nat.zero_le _) ?_
  · simp -dsimp [go_sem]
  · intro i hi
    by_cases hilt : i < ps.length
    · obtain ⟨⟨f, t⟩, hx⟩ : ∃ p, ps[i]? = some p := ⟨_, List.getElem?_eq_getElem hilt⟩
      have hr : (pR ps)[i]? = some [.lit (.string f), .lit (.string t)] := by simp [hx, row_api_Pair]
      have htt := p1.2 _ (List.mem_of_getElem? hx)
      have hfi := hpl i
      simp only at htt
      have b1 := wtext_c (G := G) (l0 ++ (ps.take i).flatMap prB) f (by simp only [List.length_append]; omega) (by omega)
      have b2 := wtext_c (G := G) (l0 ++ (ps.take i).flatMap prB ++ textB f) t (by simp only [List.length_append, textB_len]; omega) (by omega)
      have e1 : l0 ++ (ps.take i).flatMap prB ++ textB f ++ textB t = l0 ++ (ps.take (i + 1)).flatMap prB := by rw [flat_succ hx]; simp [prB]
      rw [e1] at b2
      have q1 : decide (i < ps.length) = true := by simpa using hilt
      have w1 : IntKind.i64.wrap ((i : Int) + 1) = (i : Int) + 1 := IntWalk.i64_in _ (by omega)
      generalize l0 ++ (ps.take i).flatMap prB = a at *
      obtain ⟨b, hb⟩ : ∃ b, l0 ++ (ps.take (i + 1)).flatMap prB = b := ⟨_, rfl⟩
      rw [hb] at b2
      unfold wHp at b1 b2 ⊢
      repeat' (first | (with_reducible first | refine Cn (fun h => ?_) fun h => ?_ | refine And.intro ?_ ?_ | refine wR ?_ | exact wr _ _ | refine wa ?_ | apply awp_join | refine qg b1 ?_ | refine qgd b1 ?_ | refine qg b2 ?_ | refine qgd b2 ?_) | (with_reducible refine CallZ.z ?_) | simp -dsimp [go_sem, hr, q1, w1])
      all_goals first
        | omega
        | (refine Again.auto (i + 1) ?_ hilt ?_
           · simp -dsimp [go_sem, hb]
           · show ps.length - (i + 1) < ps.length - i; omega)
        | trace_state
    · have hie : i = ps.length := by omega
      subst hie
      rw [List.take_length]
      have hpl0 := hpl ps.length
      rw [List.take_length] at hpl0
      obtain ⟨y1, g1⟩ : ∃ x, l0 ++ ps.flatMap prB = x := ⟨_, rfl⟩
      have g1n : y1.length ≤ 340000 := by rw [← g1, List.length_append]; omega
      rw [g1]
      have c1 := wtexts_c (G := G) y1 is (by omega) p2.1 p2.2
      obtain ⟨y2, g2⟩ : ∃ x, y1 ++ manyB textB is = x := ⟨_, rfl⟩
      have g2n : y2.length ≤ 410000 := by rw [← g2, List.length_append]; omega
      rw [g2] at c1 ⊢
      have c2 := wsmall_c (G := G) y2 ss.length (by omega)
      obtain ⟨l1, hl1⟩ : ∃ l1, y2 ++ [smallB ss.length] = l1 := ⟨_, rfl⟩
      have hl1n : l1.length ≤ 500000 := by rw [← hl1]; simp; omega
      rw [hl1] at c2 ⊢
      unfold wHp at c1 c2 ⊢
      repeat' (first | (with_reducible first | refine Cn (fun h => ?_) fun h => ?_ | refine And.intro ?_ ?_ | refine wR ?_ | exact wr _ _ | refine wa ?_ | apply awp_join | refine qg c1 ?_ | refine qgd c1 ?_ | refine qg c2 ?_ | refine qgd c2 ?_) | (with_reducible refine CallZ.z ?_) | simp -dsimp [go_sem, hsn])
      refine awp_loop (fun i : Nat => ⟨[(0, .one (.ptr 0 0)), (51, .one (.v (.sl (sR ss)))), (52, iV ss.length), (53, iV i)], G, wHp (l1 ++ (ss.take i).flatMap scB)⟩) (fun i => i ≤ ss.length) (fun i => ss.length - i) 0 (weak_auto ?_) (Nat.zero_le _) ?_
      · simp -dsimp [go_sem]
      · intro i hi
        by_cases hilt : i < ss.length
        · obtain ⟨⟨f, t⟩, hx⟩ : ∃ p, ss[i]? = some p := ⟨_, List.getElem?_eq_getElem hilt⟩
          have hr : (sR ss)[i]? = some [.lit (.string f), .lit (.int .i64 t)] := by simp [hx, row_api_Score]
          have htt := p3.2 _ (List.mem_of_getElem? hx)
          have hfi := hsl i
          simp only at htt
          have b1 := wtext_c (G := G) (l1 ++ (ss.take i).flatMap scB) f (by simp only [List.length_append]; omega) (by omega)
          have b2 := wnumber_c (G := G) (l1 ++ (ss.take i).flatMap scB ++ textB f) t (by simp only [List.length_append, textB_len]; omega) htt.2
          have e1 : l1 ++ (ss.take i).flatMap scB ++ textB f ++ numB t = l1 ++ (ss.take (i + 1)).flatMap scB := by rw [flat_succ hx]; simp [scB]
          rw [e1] at b2
          have q1 : decide (i < ss.length) = true := by simpa using hilt
          have w1 : IntKind.i64.wrap ((i : Int) + 1) = (i : Int) + 1 := IntWalk.i64_in _ (by omega)
          generalize l1 ++ (ss.take i).flatMap scB = a at *
          obtain ⟨b, hb⟩ : ∃ b, l1 ++ (ss.take (i + 1)).flatMap scB = b := ⟨_, rfl⟩
          rw [hb] at b2
          unfold wHp at b1 b2 ⊢
          repeat' (first | (with_reducible first | refine Cn (fun h => ?_) fun h => ?_ | refine And.intro ?_ ?_ | refine wR ?_ | exact wr _ _ | refine wa ?_ | apply awp_join | refine qg b1 ?_ | refine qgd b1 ?_ | refine qg b2 ?_ | refine qgd b2 ?_) | (with_reducible refine CallZ.z ?_) | simp -dsimp [go_sem, hr, q1, w1])
          all_goals first
            | omega
            | (refine Again.auto (i + 1) ?_ hilt ?_
               · simp -dsimp [go_sem, hb]
               · show ss.length - (i + 1) < ss.length - i; omega)
            | trace_state
        · have hie : i = ss.length := by omega
          subst hie
          rw [List.take_length]
          generalize l1 ++ ss.flatMap scB = a
          unfold wHp
          repeat' (first | (with_reducible first | refine Cn (fun h => ?_) fun h => ?_ | refine And.intro ?_ ?_ | refine wR ?_ | exact wr _ _ | refine wa ?_ | apply awp_join) | (with_reducible refine CallZ.z ?_) | simp -dsimp [go_sem])
          all_goals trace_state
end Go.Proofs.YtpdcfljbabpakaaGreatDoor
set_option linter.unusedVariables false
set_option linter.unusedSimpArgs false
set_option maxRecDepth 100000
set_option maxHeartbeats 8000000
namespace Go.Proofs.YtpdcfljbabpakaaGreatDoor
open Go Go.RowKit Go.Proofs.AE
variable {G : Nat → AV}
theorem OkM.dom2 {m : Mach} (h : OkM m) : m.sto.Small ∧ m.clis.length ≤ 1000000 := ⟨h.sto.small, by have := h.len; omega⟩
theorem valB_le {v : Val} (h : SizV v) : (valB v).length ≤ 270000 := by
  have p := many_le (g := prB) (b := 512) h.pairs.1 fun p hp => prB_le (h.pairs.2 p hp).1 (h.pairs.2 p hp).2
  have i := many_le (g := textB) (b := 256) h.items.1 fun t ht => textB_le (h.items.2 t ht)
  have s := many_le (g := scB) (b := 264) h.scores.1 fun s hs => scB_le (h.scores.2 s hs).1
  have t := textB_le h.text
  unfold valB
  simp only [List.length_append, numB_len, List.length_cons, List.length_nil]
  omega
theorem entB_len {now : Int} {e : Ent} (h : OkE now e) : (entB e).length ≤ 930 := by
  have a := okF_size h.key; have b := valB_len' h.val
  unfold entB; simp only [List.length_append, textB_len, numB_len]; omega
theorem cliB_len {next now : Int} {x : Cli} (h : OkC next now x) : (cliB x).length ≤ 500 := by
  have hr := checkR_iff.1 h.reply
  have a := okT_size hr.text
  have b := many_len (g := textB) (b := 21) (l := x.reply.list) fun t ht => by have := okT_size (hr.list t ht); rw [textB_len]; omega
  have l := hr.len
  unfold cliB; simp only [List.length_append, textB_len, numB_len, List.length_cons, List.length_nil]; omega
theorem encode_c (m : Mach) (h : OkM m) : PCall Tryz.prog G 25 [.agg m.c] (.tup [.one (.v (.sl (bR (machB m)))), iV 0]) := by
  have hck := checkM_c (G := G) m h.dom2.1 h.dom2.2
  rw [checkM_iff.2 h] at hck
  have hel := flat_take (g := entB) (b := 930) (xs := m.sto.ents) fun e he => entB_len (h.sto.all e he)
  have hcl := flat_take (g := cliB) (b := 500) (xs := m.clis) fun x hx => cliB_len (h.all x hx)
  have hn := h.sto.now; have hx := h.next; have n1 := h.sto.len; have n2 := h.len
  have hes : ∀ e ∈ m.sto.ents, SizE e := fun e he => (h.sto.all e he).siz hn.1
  have hcs : ∀ x ∈ m.clis, SizC x := fun x hc => (h.all x hc).siz hx.2 hn.2
  clear h
  unfold machB manyB
  obtain ⟨⟨now, es⟩, next, cs⟩ := m
  simp only at hel hcl hn hx n1 n2 hes hcs
  simp only [Mach.c] at hck ⊢
  have a1 := wnumber_c (G := G) [] now (by simp) (by unfold inNum; omega)
  rw [List.nil_append] at a1
  have a2 := wsmall_c (G := G) (numB now) es.length (by rw [numB_len]; omega)
  obtain ⟨l0, hl0⟩ : ∃ l, numB now ++ [smallB es.length] = l := ⟨_, rfl⟩
  have hl0n : l0.length = 9 := by rw [← hl0]; rfl
  rw [hl0] at a2
  have hfin : numB now ++ ((smallB es.length :: es.flatMap entB) ++ (numB next ++ (smallB cs.length :: cs.flatMap cliB))) = l0 ++ es.flatMap entB ++ numB next ++ [smallB cs.length] ++ cs.flatMap cliB := by rw [← hl0]; simp
  rw [hfin]
  have hen : (eR es).length = es.length := by simp
  have hcn : (clR cs).length = cs.length := by simp
  refine pcallc mixed Tryz.func25 ac_wire_Encode ?_
  unfold wHp at *
  repeat' (first | (with_reducible first | refine Cn (fun h => ?_) fun h => ?_ | refine And.intro ?_ ?_ | refine wR ?_ | exact wr _ _ | refine wa ?_ | apply awp_join | refine q hck ?_ | refine qd hck ?_ | refine qz hck ?_ | refine qg a1 ?_ | refine qgd a1 ?_ | refine qg a2 ?_ | refine qgd a2 ?_) | (refine CallZ.l (CallK.thaw 1 0 5 1 rfl rfl (by decide) ?_); simp -dsimp [go_sem]) | (with_reducible refine CallZ.z ?_) | simp -dsimp [go_sem, hen])
  refine awp_loop (fun i : Nat => ⟨[(1, .one (.ptr 0 0)), (5, .one (.ptr 1 0)), (30, .one (.v (.sl (eR es)))), (31, iV es.length), (32, iV i)], G, [some (.box 28 [iC now, .v (.sl (eR es)), iC next, .v (.sl (clR cs))]), some (.box 112 [.ar 2]), some (.arr 5 1 (bR (l0 ++ (es.take i).flatMap entB)))]⟩) (fun i => i ≤ es.length) (fun i => es.length - i) 0 (weak_auto ?_) (Nat.zero_le _) ?_
  · simp -dsimp [go_sem]
  · intro i hi
    by_cases hilt : i < es.length
    · obtain ⟨e, hx⟩ : ∃ p, es[i]? = some p := ⟨_, List.getElem?_eq_getElem hilt⟩
      have hr : (eR es)[i]? = some e.row := by simp [hx]
      have hse := hes e (List.mem_of_getElem? hx)
      have hfi := hel i
      have hb3 := valB_le hse.val
      obtain ⟨y0, g0⟩ : ∃ x, l0 ++ (es.take i).flatMap entB = x := ⟨_, rfl⟩
      have g0n : y0.length ≤ 12000 := by rw [← g0, List.length_append]; omega
      have b1 := wtext_c (G := G) y0 e.key (by omega) (by have := hse.key; omega)
      obtain ⟨y1, g1⟩ : ∃ x, y0 ++ textB e.key = x := ⟨_, rfl⟩
      have g1n : y1.length ≤ 13000 := by rw [← g1, List.length_append]; have := textB_le hse.key; omega
      have b2 := wvalue_c (G := G) y1 e.val (by omega) hse.val
      obtain ⟨y2, g2⟩ : ∃ x, y1 ++ valB e.val = x := ⟨_, rfl⟩
      have g2n : y2.length ≤ 300000 := by rw [← g2, List.length_append]; omega
      have b3 := wnumber_c (G := G) y2 e.till (by omega) hse.till
      have e1 : y2 ++ numB e.till = l0 ++ (es.take (i + 1)).flatMap entB := by rw [flat_succ hx, ← g2, ← g1, ← g0]; simp [entB]
      obtain ⟨b, hb⟩ : ∃ b, l0 ++ (es.take (i + 1)).flatMap entB = b := ⟨_, rfl⟩
      rw [g1] at b1
      rw [g2] at b2
      rw [e1, hb] at b3
      rw [g0]
      clear g1 g2 e1 g0
      have q1 : decide (i < es.length) = true := by simpa using hilt
      have w1 : IntKind.i64.wrap ((i : Int) + 1) = (i : Int) + 1 := IntWalk.i64_in _ (by omega)
      clear hck a1 a2
      obtain ⟨key, ⟨vk, vt, vn, vp, vi, vs⟩, till⟩ := e
      simp only [Val.c] at b1 b2 b3
      simp only [Ent.row] at hr
      unfold wHp at b1 b2 b3
      repeat' (first | (with_reducible first | refine Cn (fun h => ?_) fun h => ?_ | refine And.intro ?_ ?_ | refine wR ?_ | exact wr _ _ | refine wa ?_ | apply awp_join | refine qg b1 ?_ | refine qgd b1 ?_ | refine qg b2 ?_ | refine qgd b2 ?_ | refine qg b3 ?_ | refine qgd b3 ?_) | (with_reducible refine CallZ.z ?_) | simp -dsimp [go_sem, hr, q1, w1])
      all_goals first
        | omega
        | (refine Again.auto (i + 1) ?_ hilt ?_
           · simp -dsimp [go_sem, hb]
           · show es.length - (i + 1) < es.length - i; omega)
        | trace_state
    · have hie : i = es.length := by omega
      subst hie
      rw [List.take_length]
      have hel0 := hel es.length
      rw [List.take_length] at hel0
      clear hck a1 a2
      obtain ⟨y1, g1⟩ : ∃ x, l0 ++ es.flatMap entB = x := ⟨_, rfl⟩
      have g1n : y1.length ≤ 12000 := by rw [← g1, List.length_append]; omega
      rw [g1]
      have c1 := wnumber_c (G := G) y1 next (by omega) (by unfold inNum; omega)
      obtain ⟨y2, g2⟩ : ∃ x, y1 ++ numB next = x := ⟨_, rfl⟩
      have g2n : y2.length ≤ 13000 := by rw [← g2, List.length_append, numB_len]; omega
      rw [g2] at c1 ⊢
      have c2 := wsmall_c (G := G) y2 cs.length (by omega)
      obtain ⟨l1, hl1⟩ : ∃ l1, y2 ++ [smallB cs.length] = l1 := ⟨_, rfl⟩
      have hl1n : l1.length ≤ 14000 := by rw [← hl1]; simp; omega
      rw [hl1] at c2 ⊢
      unfold wHp at c1 c2
      repeat' (first | (with_reducible first | refine Cn (fun h => ?_) fun h => ?_ | refine And.intro ?_ ?_ | refine wR ?_ | exact wr _ _ | refine wa ?_ | apply awp_join | refine qg c1 ?_ | refine qgd c1 ?_ | refine qg c2 ?_ | refine qgd c2 ?_) | (with_reducible refine CallZ.z ?_) | simp -dsimp [go_sem, hcn])
      refine awp_loop (fun i : Nat => ⟨[(5, .one (.ptr 0 0)), (59, .one (.v (.sl (clR cs)))), (60, iV cs.length), (61, iV i)], G, wHp (l1 ++ (cs.take i).flatMap cliB)⟩) (fun i => i ≤ cs.length) (fun i => cs.length - i) 0 (weak_auto ?_) (Nat.zero_le _) ?_
      · simp -dsimp [go_sem]
      · intro i hi
        by_cases hilt : i < cs.length
        · obtain ⟨x, hx⟩ : ∃ p, cs[i]? = some p := ⟨_, List.getElem?_eq_getElem hilt⟩
          have hr : (clR cs)[i]? = some x.row := by simp [hx]
          have hsc := hcs x (List.mem_of_getElem? hx)
          have hfi := hcl i
          have htl := textB_le hsc.text
          obtain ⟨y0, g0⟩ : ∃ y, l1 ++ (cs.take i).flatMap cliB = y := ⟨_, rfl⟩
          have g0n : y0.length ≤ 20000 := by rw [← g0, List.length_append]; omega
          have b1 := wnumber_c (G := G) y0 x.id (by omega) hsc.id
          obtain ⟨y1, g1⟩ : ∃ y, y0 ++ numB x.id = y := ⟨_, rfl⟩
          have g1n : y1.length ≤ 20008 := by rw [← g1, List.length_append, numB_len]; omega
          have b2 := wnumber_c (G := G) y1 x.seq (by omega) hsc.seq
          obtain ⟨y2, g2⟩ : ∃ y, y1 ++ numB x.seq = y := ⟨_, rfl⟩
          have g2n : y2.length ≤ 20016 := by rw [← g2, List.length_append, numB_len]; omega
          have b3 := wnumber_c (G := G) y2 x.time (by omega) hsc.time
          obtain ⟨y3, g3⟩ : ∃ y, y2 ++ numB x.time = y := ⟨_, rfl⟩
          have g3n : y3.length ≤ 20024 := by rw [← g3, List.length_append, numB_len]; omega
          have b4 := wsmall_c (G := G) y3 x.reply.code (by omega)
          obtain ⟨y4, g4⟩ : ∃ y, y3 ++ [smallB x.reply.code] = y := ⟨_, rfl⟩
          have g4n : y4.length ≤ 20025 := by rw [← g4]; simp; omega
          have b5 := wtext_c (G := G) y4 x.reply.text (by omega) (by have := hsc.text; omega)
          obtain ⟨y5, g5⟩ : ∃ y, y4 ++ textB x.reply.text = y := ⟨_, rfl⟩
          have g5n : y5.length ≤ 20300 := by rw [← g5, List.length_append]; omega
          have b6 := wnumber_c (G := G) y5 x.reply.n (by omega) hsc.n
          obtain ⟨y6, g6⟩ : ∃ y, y5 ++ numB x.reply.n = y := ⟨_, rfl⟩
          have g6n : y6.length ≤ 20308 := by rw [← g6, List.length_append, numB_len]; omega
          have b7 := wtexts_c (G := G) y6 x.reply.list (by omega) hsc.list.1 hsc.list.2
          have e1 : y6 ++ manyB textB x.reply.list = l1 ++ (cs.take (i + 1)).flatMap cliB := by rw [flat_succ hx, ← g6, ← g5, ← g4, ← g3, ← g2, ← g1, ← g0]; simp [cliB]
          obtain ⟨b, hb⟩ : ∃ b, l1 ++ (cs.take (i + 1)).flatMap cliB = b := ⟨_, rfl⟩
          rw [g1] at b1
          rw [g2] at b2
          rw [g3] at b3
          rw [g4] at b4
          rw [g5] at b5
          rw [g6] at b6
          rw [e1, hb] at b7
          rw [g0]
          clear g1 g2 g3 g4 g5 g6 e1 g0
          have q1 : decide (i < cs.length) = true := by simpa using hilt
          have w1 : IntKind.i64.wrap ((i : Int) + 1) = (i : Int) + 1 := IntWalk.i64_in _ (by omega)
          clear c1 c2
          obtain ⟨id, seq, time, ⟨rc, rt, rn, rl⟩⟩ := x
          simp only [Cli.row] at hr
          simp only at b1 b2 b3 b4 b5 b6 b7
          unfold wHp at b1 b2 b3 b4 b5 b6 b7 ⊢
          repeat' (first | (with_reducible first | refine Cn (fun h => ?_) fun h => ?_ | refine And.intro ?_ ?_ | refine wR ?_ | exact wr _ _ | refine wa ?_ | apply awp_join | refine qg b1 ?_ | refine qgd b1 ?_ | refine qg b2 ?_ | refine qgd b2 ?_ | refine qg b3 ?_ | refine qgd b3 ?_ | refine qg b4 ?_ | refine qgd b4 ?_ | refine qg b5 ?_ | refine qgd b5 ?_ | refine qg b6 ?_ | refine qgd b6 ?_ | refine qg b7 ?_ | refine qgd b7 ?_) | (with_reducible refine CallZ.z ?_) | simp -dsimp [go_sem, hr, q1, w1])
          all_goals first
            | omega
            | (refine Again.auto (i + 1) ?_ hilt ?_
               · simp -dsimp [go_sem, hb]
               · show cs.length - (i + 1) < cs.length - i; omega)
            | trace_state
        · have hie : i = cs.length := by omega
          subst hie
          rw [List.take_length]
          generalize l1 ++ cs.flatMap cliB = a
          unfold wHp
          repeat' (first | (with_reducible first | refine Cn (fun h => ?_) fun h => ?_ | refine And.intro ?_ ?_ | refine wR ?_ | exact wr _ _ | refine wa ?_ | apply awp_join) | (with_reducible refine CallZ.z ?_) | simp -dsimp [go_sem])
          all_goals trace_state
end Go.Proofs.YtpdcfljbabpakaaGreatDoor
set_option linter.unusedVariables false
set_option linter.unusedSimpArgs false
set_option maxRecDepth 100000
set_option maxHeartbeats 8000000
namespace Go.Proofs.YtpdcfljbabpakaaGreatDoor
open Go Go.RowKit Go.Proofs.AE
def cleanF : List Nat → List (Nat × AV) → List (Nat × AV)
  | _, [] => []
  | seen, (t, v) :: r => bif memB t seen then cleanF seen r else (t, v) :: cleanF (t :: seen) r
theorem getF_cleanF : ∀ (fr : List (Nat × AV)) (seen : List Nat) (t : Nat), t ∉ seen → getF (cleanF seen fr) t = getF fr t
  | [], _, _, _ => rfl
  | (u, v) :: r, seen, t, h => by
    unfold cleanF
    cases hm : memB u seen with
    | true =>
      have hu : u ∈ seen := memB_iff.1 hm
      have hne : u ≠ t := fun e => h (e ▸ hu)
      simp only [cond_true]
      rw [getF_cleanF r seen t h]
      simp only [getF, hne, if_false]
    | false =>
      simp only [cond_false, getF]
      by_cases e : u = t
      · simp [e]
      · simp only [e, if_false]
        exact getF_cleanF r (u :: seen) t (by simp only [List.mem_cons, not_or]; exact ⟨fun h => e h.symm, h⟩)
theorem clean_nil (seen : List Nat) : cleanF seen [] = [] := rfl
def cleanS (b : Bool) (seen : List Nat) (t : Nat) (v : AV) (r : List (Nat × AV)) : List (Nat × AV) := bif b then cleanF seen r else (t, v) :: cleanF (t :: seen) r
theorem clean_cons {seen : List Nat} {t : Nat} {v : AV} {r : List (Nat × AV)} : cleanF seen ((t, v) :: r) = cleanS (memB t seen) seen t v r := rfl
theorem clean_yes {seen : List Nat} {t : Nat} {v : AV} {r : List (Nat × AV)} : cleanS true seen t v r = cleanF seen r := rfl
theorem clean_no {seen : List Nat} {t : Nat} {v : AV} {r : List (Nat × AV)} : cleanS false seen t v r = (t, v) :: cleanF (t :: seen) r := rfl
theorem weak_autoC {k : Nat} {s s' : S} (h : WA k s ⟨cleanF [] s'.fr, s'.gl, s'.hp⟩) : Weak k s s' := by
  refine Weak.trans (weak_auto h) ⟨rfl, fun n w ok μ a hst => ⟨ok, μ, ⟨hst.hr, hst.size, hst.defers, fun t => ?_, hst.gl⟩, (Go.Proofs.AE.Step.refl hst.hr).far⟩⟩
  have := hst.fr t
  rw [getF_cleanF _ _ _ (by simp)] at this
  exact this
end Go.Proofs.YtpdcfljbabpakaaGreatDoor
set_option linter.unusedVariables false
set_option linter.unusedSimpArgs false
set_option maxRecDepth 100000
set_option maxHeartbeats 8000000
namespace Go.Proofs.YtpdcfljbabpakaaGreatDoor
open Go Go.RowKit Go.Proofs.AE
def subC : List Nat → ACode → ACode
  | [], c => c
  | i :: r, .seq a b => subC r (if i = 0 then a else b)
  | i :: r, .cond _ t e => subC r (if i = 0 then t else e)
  | _ :: r, .block _ c => subC r c
  | _ :: r, .loop c => subC r c
  | _, c => c
structure PartIs (d : ACode) : Prop where
theorem PartIs.of {f : Func} {c : ACode} {rs : List ResultVar} {d : ACode} (cc : CC f c rs) (p : List Nat) (h : subC p c = d := by (conv => lhs; simp [subC]); all_goals exact rfl) : PartIs d := ⟨⟩
abbrev codeOf {d : ACode} (_ : PartIs d) : ACode := d
def nthAlt : ACode → Nat → List AOp × List (Nat × Nat)
  | .regD l, j => l.getD j ([], [])
  | _, _ => ([], [])
def AltOk (P : Program) (c : ACode) (j : Nat) (s s' : S) : Prop := aopsD P (nthAlt c j).1 [] s (fun h q => stables P (nthAlt c j).1 (s :: h) (nthAlt c j).2 ∧ Weak 0 q s')
theorem alts_of {P : Program} {Q : Exit → S → Prop} {s s' : S} : ∀ (l : List (List AOp × List (Nat × Nat))), (∀ j, j < l.length → AltOk P (.regD l) j s s') → allAlts P s (fun q => Weak 0 q s') l
  | [], _ => trivial
  | (al, ps) :: r, h => ⟨h 0 (by simp), alts_of (Q := Q) r fun j hj => by have := h (j + 1) (by simpa using hj); unfold AltOk nthAlt at this ⊢; simpa using this⟩
def AllOk (P : Program) (c : ACode) (s s' : S) : Nat → Prop
  | 0 => True
  | n + 1 => AltOk P c n s s' ∧ AllOk P c s s' n
theorem AllOk.get {P : Program} {c : ACode} {s s' : S} : ∀ {n : Nat}, AllOk P c s s' n → ∀ j, j < n → AltOk P c j s s'
  | 0, _, j, hj => by omega
  | n + 1, h, j, hj => by
    by_cases e : j = n
    · subst e; exact h.1
    · exact AllOk.get h.2 j (by omega)
theorem reg_of {P : Program} {Q : Exit → S → Prop} {s s' : S} {c : ACode} (l : List (List AOp × List (Nat × Nat))) (n : Nat) (hc : c = .regD l) (hn : l.length = n) (h : AllOk P c s s' n) (hq : Q .normal s') : awp P 0 c Q s := by
  subst hc
  exact awp_join s' (alts_of (Q := Q) l fun j hj => h.get j (by omega)) hq
end Go.Proofs.YtpdcfljbabpakaaGreatDoor
set_option linter.unusedVariables false
set_option linter.unusedSimpArgs false
set_option maxRecDepth 100000
set_option maxHeartbeats 8000000
namespace Go.Proofs.YtpdcfljbabpakaaGreatDoor
open Go Go.RowKit Go.Proofs.AE
variable {G : Nat → AV}
theorem eachN_len {α : Type} (f : Rd → α × Rd) : ∀ (n : Nat) (r : Rd), (eachN f n r).1.length ≤ n
  | 0, r => Nat.le_refl _
  | n + 1, r => by
    unfold eachN
    split
    · simp
    · have := eachN_len f n (f r).2
      simp only [List.length_cons]; omega
theorem smallR_lt (r : Rd) : (smallR r).1 < 256 := by
  unfold smallR
  split
  · rename_i c _ _
    have := c.toNat_lt
    exact this
  · simp
theorem eachR_len {α : Type} (f : Rd → α × Rd) (r : Rd) : (eachR f r).1.length ≤ 255 := by
  unfold eachR
  have h1 := eachN_len f (smallR r).1 (smallR r).2
  have h2 := smallR_lt r
  omega
structure OnWay {α : Type} (f : Rd → α × Rd) (r0 : Rd) (n : Nat) (r : Rd) (l : List α) : Prop where
  eq : eachR f r0 = (l ++ (eachN f n r).1, (eachN f n r).2)
  le : l.length + n ≤ 255
theorem OnWay.first {α : Type} (f : Rd → α × Rd) (r0 : Rd) : OnWay f r0 (smallR r0).1 (smallR r0).2 [] := ⟨rfl, by have := smallR_lt r0; simp; omega⟩
theorem OnWay.next {α : Type} {f : Rd → α × Rd} {r0 r : Rd} {n : Nat} {l : List α} (h : OnWay f r0 (n + 1) r l) (hs : r.short = false) : OnWay f r0 n (f r).2 (l ++ [(f r).1]) := by
  refine ⟨?_, by have := h.le; simp; omega⟩
  have e : eachN f (n + 1) r = ((f r).1 :: (eachN f n (f r).2).1, (eachN f n (f r).2).2) := by
    show (if r.short = true then _ else _) = _
    rw [if_neg (by rw [hs]; simp)]
  rw [h.eq, e]
  simp
theorem OnWay.stop {α : Type} {f : Rd → α × Rd} {r0 r : Rd} {n : Nat} {l : List α} (h : OnWay f r0 n r l) (hs : n = 0 ∨ r.short = true) : eachR f r0 = (l, r) := by
  rw [h.eq]
  rcases hs with rfl | hs
  · simp [eachN]
  · cases n with
    | zero => simp [eachN]
    | succ n => unfold eachN; rw [if_pos hs]; simp
abbrev tHp (r : Rd) (l : List ByteArray) : Hp := [some (.box 128 [.v (.sl (bR r.rest)), .v (.lit (.bool r.short))]), some (.box 125 [.ptr 0 0]), some (.box 104 [.ar 3]), some (.arr 9 1 (strRows l))]
theorem strRows_snoc (l : List ByteArray) (t : ByteArray) : strRows (l ++ [t]) = strRows l ++ [[.lit (.string t)]] := by simp [strRows]
theorem strRows_ul (l : List ByteArray) : UL 1 (strRows l) := by
  intro r hr
  obtain ⟨y, _, rfl⟩ := List.mem_map.1 hr
  rfl
theorem txStep_c (r : Rd) (l : List ByteArray) (hl : l.length ≤ 1000) : DetCall Tryz.prog G 91 3 (tHp r l) [.one (.ptr 2 0), .one (.ptr 1 0)] (.tup []) (tHp (txtR r).2 (l ++ [(txtR r).1])) := by
  have ht := rtext_c (G := G) r
  have h1 : (strRows l).length = l.length := by simp [strRows]
  have h2 := strRows_ul l
  generalize txtR r = q at *
  obtain ⟨t, r2⟩ := q
  simp only at ht
  have h3 := strRows_snoc l t
  unfold tHp
  rw [h3]
  unfold rHp at ht
  refine gcallc mixed Tryz.func91 ac_wire_reader_texts_1 ?_
  repeat' (first | (with_reducible first | refine Cn (fun h => ?_) fun h => ?_ | refine And.intro ?_ ?_ | refine wR ?_ | exact wr _ _ | refine wa ?_ | apply awp_join | refine qg ht ?_ | refine qgd ht ?_) | (with_reducible refine CallZ.z ?_) | simp -dsimp [go_sem, h1, h2])
  all_goals first | omega | (simp [UL]; done) | trace_state
theorem txEach_c  (r0 : Rd) : DetCall Tryz.prog G 56 3 (tHp  r0 []) [.one (.ptr 0 0), .fn 91 [] [.ptr 2 0, .ptr 1 0]] (.tup []) (tHp  (eachR txtR r0).2 (eachR txtR r0).1) := by
  have hsm := rsmall_c (G := G) r0
  have hle := smallR_lt r0
  have hen := en91
  have hfirst := OnWay.first txtR r0
  generalize smallR r0 = q at *
  obtain ⟨n, r⟩ := q
  simp only at hle hfirst
  refine gcallc mixed Tryz.func56 ac_wire_reader_each ?_
  unfold tHp
  unfold rHp at hsm
  repeat' (first | (with_reducible first | refine Cn (fun h => ?_) fun h => ?_ | refine And.intro ?_ ?_ | refine wR ?_ | exact wr _ _ | refine wa ?_ | apply awp_join | refine qg hsm ?_ | refine qgd hsm ?_) | (with_reducible refine CallZ.z ?_) | simp -dsimp [go_sem])
  refine awp_loop (fun x : Nat × Rd × List ByteArray => ⟨[(0, .one (.ptr 0 0)), (1, .fn 91 [] [.ptr 2 0, .ptr 1 0]), (4, iV x.1)], G, tHp  x.2.1 x.2.2⟩) (fun x => OnWay txtR r0 x.1 x.2.1 x.2.2) (fun x => x.1) (n, r, []) (weak_auto ?_) hfirst ?_
  · simp -dsimp [go_sem, strRows]
  · rintro ⟨n, r, l⟩ hw
    simp only at hw
    have hwl := hw.le
    unfold tHp
    cases n with
    | zero =>
      rw [hw.stop (.inl rfl)]
      repeat' (first | (with_reducible first | refine Cn (fun h => ?_) fun h => ?_ | refine And.intro ?_ ?_ | refine wR ?_ | exact wr _ _ | refine wa ?_ | apply awp_join) | (with_reducible refine CallZ.z ?_) | simp -dsimp [go_sem])
      all_goals trace_state
    | succ n =>
      have w1 : IntKind.i64.wrap (n : Int) = (n : Int) := IntWalk.i64_in _ (by omega)
      have w2 : ((n + 1 : Nat) : Int) - 1 = (n : Int) := by omega
      have q1 : decide (0 < ((n + 1 : Nat) : Int)) = true := decide_eq_true (by omega)
      have q2 : decide (0 < (n : Int) + 1) = true := decide_eq_true (by omega)
      by_cases hs : r.short = true
      · rw [hw.stop (.inr hs)]
        repeat' (first | (with_reducible first | refine Cn (fun h => ?_) fun h => ?_ | refine And.intro ?_ ?_ | refine wR ?_ | exact wr _ _ | refine wa ?_ | apply awp_join) | (with_reducible refine CallZ.z ?_) | simp -dsimp [go_sem, hs, q1, q2])
        all_goals trace_state
      · have hs : r.short = false := by simpa using hs
        have hst := txStep_c (G := G)  r l (by omega)
        have hnx := hw.next hs
        generalize txtR r = q at *
        obtain ⟨t, r2⟩ := q
        simp only at hst hnx
        clear hsm
        unfold tHp at hst
        rw [hs] at hst
        repeat' (first | (with_reducible first | refine Cn (fun h => ?_) fun h => ?_ | refine And.intro ?_ ?_ | refine wR ?_ | exact wr _ _ | refine wa ?_ | apply awp_join | refine qg hst ?_ | refine qgd hst ?_) | (with_reducible refine CallZ.z ?_) | simp -dsimp [go_sem, hs, q1, q2, w1, w2, hen])
        all_goals first
          | omega
          | (refine Again.auto (n, r2, l ++ [t]) ?_ hnx ?_
             · simp -dsimp [go_sem]
             · show n < n + 1; omega)
          | trace_state
theorem rtexts_c (r : Rd) : DetCall Tryz.prog G 62 1 (rHp r) [.one (.ptr 0 0)] (.one (.v (.sl (strRows (eachR txtR r).1)))) (rHp (eachR txtR r).2) := by
  have he := txEach_c (G := G) r
  generalize eachR txtR r = q at *
  obtain ⟨l, r2⟩ := q
  simp only at he
  unfold tHp at he
  have h0 : strRows [] = [] := rfl
  rw [h0] at he
  unfold rHp
  refine gcallc mixed Tryz.func62 ac_wire_reader_texts ?_
  repeat' (first | (with_reducible first | refine Cn (fun h => ?_) fun h => ?_ | refine And.intro ?_ ?_ | refine wR ?_ | exact wr _ _ | refine wa ?_ | apply awp_join | refine qg he ?_ | refine qgd he ?_) | (refine CallZ.l (CallK.thaw 2 0 9 1 rfl rfl (by decide) ?_); simp -dsimp [go_sem]) | (with_reducible refine CallZ.z ?_) | simp -dsimp [go_sem])
  all_goals trace_state
abbrev pHp (k : Int) (t : ByteArray) (c : Int) (r : Rd) (l : List Pr) : Hp := [some (.box 128 [.v (.sl (bR r.rest)), .v (.lit (.bool r.short))]), some (.box 125 [.ptr 0 0]), some (.box 117 [iC k, sC t, iC c, .ar 3, .ar 4, .ar 5]), some (.arr 165 2 (pR l)), some (.arr 9 1 []), some (.arr 167 2 [])]
theorem pR_ul (l : List Pr) : UL 2 (pR l) := by
  intro r hr
  obtain ⟨y, _, rfl⟩ := List.mem_map.1 hr
  rfl
theorem sR_ul (l : List Sc) : UL 2 (sR l) := by
  intro r hr
  obtain ⟨y, _, rfl⟩ := List.mem_map.1 hr
  rfl
theorem prStep_c (k : Int) (t : ByteArray) (c : Int) (r : Rd) (l : List Pr) (hl : l.length ≤ 1000) : DetCall Tryz.prog G 89 3 (pHp k t c r l) [.one (.ptr 2 0), .one (.ptr 1 0)] (.tup []) (pHp k t c (prR r).2 (l ++ [(prR r).1])) := by
  have e : prR r = (((txtR r).1, (txtR (txtR r).2).1), (txtR (txtR r).2).2) := rfl
  rw [e]
  have h1 := rtext_c (G := G) r
  generalize txtR r = q at *
  obtain ⟨f, r1⟩ := q
  simp only at h1 ⊢
  have h2 := rtext_c (G := G) r1
  generalize txtR r1 = q at *
  obtain ⟨x, r2⟩ := q
  simp only at h2 ⊢
  have h3 : (pR l).length = l.length := by simp
  have h4 := pR_ul l
  have h5 : pR (l ++ [(f, x)]) = pR l ++ [[.lit (.string f), .lit (.string x)]] := by simp
  unfold pHp
  rw [h5]
  unfold rHp at h1 h2
  refine gcallc mixed Tryz.func89 ac_wire_reader_value_1 ?_
  repeat' (first | (with_reducible first | refine Cn (fun h => ?_) fun h => ?_ | refine And.intro ?_ ?_ | refine wR ?_ | exact wr _ _ | refine wa ?_ | apply awp_join | refine qg h1 ?_ | refine qgd h1 ?_ | refine qg h2 ?_ | refine qgd h2 ?_) | (with_reducible refine CallZ.z ?_) | simp -dsimp [go_sem, h3, h4])
  all_goals first | omega | (simp [UL]; done) | trace_state
theorem prEach_c (k : Int) (t : ByteArray) (c : Int) (r0 : Rd) : DetCall Tryz.prog G 56 3 (pHp k t c r0 []) [.one (.ptr 0 0), .fn 89 [] [.ptr 2 0, .ptr 1 0]] (.tup []) (pHp k t c (eachR prR r0).2 (eachR prR r0).1) := by
  have hsm := rsmall_c (G := G) r0
  have hle := smallR_lt r0
  have hen := en89
  have hfirst := OnWay.first prR r0
  generalize smallR r0 = q at *
  obtain ⟨n, r⟩ := q
  simp only at hle hfirst
  refine gcallc mixed Tryz.func56 ac_wire_reader_each ?_
  unfold pHp
  unfold rHp at hsm
  repeat' (first | (with_reducible first | refine Cn (fun h => ?_) fun h => ?_ | refine And.intro ?_ ?_ | refine wR ?_ | exact wr _ _ | refine wa ?_ | apply awp_join | refine qg hsm ?_ | refine qgd hsm ?_) | (with_reducible refine CallZ.z ?_) | simp -dsimp [go_sem])
  refine awp_loop (fun x : Nat × Rd × List Pr => ⟨[(0, .one (.ptr 0 0)), (1, .fn 89 [] [.ptr 2 0, .ptr 1 0]), (4, iV x.1)], G, pHp k t c x.2.1 x.2.2⟩) (fun x => OnWay prR r0 x.1 x.2.1 x.2.2) (fun x => x.1) (n, r, []) (weak_auto ?_) hfirst ?_
  · simp -dsimp [go_sem]
  · rintro ⟨n, r, l⟩ hw
    simp only at hw
    have hwl := hw.le
    unfold pHp
    cases n with
    | zero =>
      rw [hw.stop (.inl rfl)]
      repeat' (first | (with_reducible first | refine Cn (fun h => ?_) fun h => ?_ | refine And.intro ?_ ?_ | refine wR ?_ | exact wr _ _ | refine wa ?_ | apply awp_join) | (with_reducible refine CallZ.z ?_) | simp -dsimp [go_sem])
      all_goals trace_state
    | succ n =>
      have w1 : IntKind.i64.wrap (n : Int) = (n : Int) := IntWalk.i64_in _ (by omega)
      have w2 : ((n + 1 : Nat) : Int) - 1 = (n : Int) := by omega
      have q1 : decide (0 < ((n + 1 : Nat) : Int)) = true := decide_eq_true (by omega)
      have q2 : decide (0 < (n : Int) + 1) = true := decide_eq_true (by omega)
      by_cases hs : r.short = true
      · rw [hw.stop (.inr hs)]
        repeat' (first | (with_reducible first | refine Cn (fun h => ?_) fun h => ?_ | refine And.intro ?_ ?_ | refine wR ?_ | exact wr _ _ | refine wa ?_ | apply awp_join) | (with_reducible refine CallZ.z ?_) | simp -dsimp [go_sem, hs, q1, q2])
        all_goals trace_state
      · have hs : r.short = false := by simpa using hs
        have hst := prStep_c (G := G) k t c r l (by omega)
        have hnx := hw.next hs
        generalize prR r = q at *
        obtain ⟨t, r2⟩ := q
        simp only at hst hnx
        clear hsm
        unfold pHp at hst
        rw [hs] at hst
        repeat' (first | (with_reducible first | refine Cn (fun h => ?_) fun h => ?_ | refine And.intro ?_ ?_ | refine wR ?_ | exact wr _ _ | refine wa ?_ | apply awp_join | refine qg hst ?_ | refine qgd hst ?_) | (with_reducible refine CallZ.z ?_) | simp -dsimp [go_sem, hs, q1, q2, w1, w2, hen])
        all_goals first
          | omega
          | (refine Again.auto (n, r2, l ++ [t]) ?_ hnx ?_
             · simp -dsimp [go_sem]
             · show n < n + 1; omega)
          | trace_state
abbrev sHp (k : Int) (t : ByteArray) (c : Int) (ps : List Pr) (is : List ByteArray) (r : Rd) (l : List Sc) : Hp := [some (.box 128 [.v (.sl (bR r.rest)), .v (.lit (.bool r.short))]), some (.box 125 [.ptr 0 0]), some (.box 117 [iC k, sC t, iC c, .ar 3, .v (.sl (strRows is)), .ar 4]), some (.arr 165 2 (pR ps)), some (.arr 167 2 (sR l))]
theorem scStep_c (k : Int) (t : ByteArray) (c : Int) (ps : List Pr) (is : List ByteArray) (r : Rd) (l : List Sc) (hl : l.length ≤ 1000) : DetCall Tryz.prog G 90 3 (sHp k t c ps is r l) [.one (.ptr 2 0), .one (.ptr 1 0)] (.tup []) (sHp k t c ps is (scR r).2 (l ++ [(scR r).1])) := by
  have e : scR r = (((txtR r).1, (numR (txtR r).2).1), (numR (txtR r).2).2) := rfl
  rw [e]
  have h1 := rtext_c (G := G) r
  generalize txtR r = q at *
  obtain ⟨f, r1⟩ := q
  simp only at h1 ⊢
  have h2 := rnumber_c (G := G) r1
  generalize numR r1 = q at *
  obtain ⟨x, r2⟩ := q
  simp only at h2 ⊢
  have h3 : (sR l).length = l.length := by simp
  have h4 := sR_ul l
  have h5 : sR (l ++ [(f, x)]) = sR l ++ [[.lit (.string f), .lit (.int .i64 x)]] := by simp
  unfold sHp
  rw [h5]
  unfold rHp at h1 h2
  refine gcallc mixed Tryz.func90 ac_wire_reader_value_2 ?_
  repeat' (first | (with_reducible first | refine Cn (fun h => ?_) fun h => ?_ | refine And.intro ?_ ?_ | refine wR ?_ | exact wr _ _ | refine wa ?_ | apply awp_join | refine qg h1 ?_ | refine qgd h1 ?_ | refine qg h2 ?_ | refine qgd h2 ?_) | (with_reducible refine CallZ.z ?_) | simp -dsimp [go_sem, h3, h4])
  all_goals first | omega | (simp [UL]; done) | trace_state
theorem scEach_c (k : Int) (t : ByteArray) (c : Int) (ps : List Pr) (is : List ByteArray) (r0 : Rd) : DetCall Tryz.prog G 56 3 (sHp k t c ps is r0 []) [.one (.ptr 0 0), .fn 90 [] [.ptr 2 0, .ptr 1 0]] (.tup []) (sHp k t c ps is (eachR scR r0).2 (eachR scR r0).1) := by
  have hsm := rsmall_c (G := G) r0
  have hle := smallR_lt r0
  have hen := en90
  have hfirst := OnWay.first scR r0
  generalize smallR r0 = q at *
  obtain ⟨n, r⟩ := q
  simp only at hle hfirst
  refine gcallc mixed Tryz.func56 ac_wire_reader_each ?_
  unfold sHp
  unfold rHp at hsm
  repeat' (first | (with_reducible first | refine Cn (fun h => ?_) fun h => ?_ | refine And.intro ?_ ?_ | refine wR ?_ | exact wr _ _ | refine wa ?_ | apply awp_join | refine qg hsm ?_ | refine qgd hsm ?_) | (with_reducible refine CallZ.z ?_) | simp -dsimp [go_sem])
  refine awp_loop (fun x : Nat × Rd × List Sc => ⟨[(0, .one (.ptr 0 0)), (1, .fn 90 [] [.ptr 2 0, .ptr 1 0]), (4, iV x.1)], G, sHp k t c ps is x.2.1 x.2.2⟩) (fun x => OnWay scR r0 x.1 x.2.1 x.2.2) (fun x => x.1) (n, r, []) (weak_auto ?_) hfirst ?_
  · simp -dsimp [go_sem]
  · rintro ⟨n, r, l⟩ hw
    simp only at hw
    have hwl := hw.le
    unfold sHp
    cases n with
    | zero =>
      rw [hw.stop (.inl rfl)]
      repeat' (first | (with_reducible first | refine Cn (fun h => ?_) fun h => ?_ | refine And.intro ?_ ?_ | refine wR ?_ | exact wr _ _ | refine wa ?_ | apply awp_join) | (with_reducible refine CallZ.z ?_) | simp -dsimp [go_sem])
      all_goals trace_state
    | succ n =>
      have w1 : IntKind.i64.wrap (n : Int) = (n : Int) := IntWalk.i64_in _ (by omega)
      have w2 : ((n + 1 : Nat) : Int) - 1 = (n : Int) := by omega
      have q1 : decide (0 < ((n + 1 : Nat) : Int)) = true := decide_eq_true (by omega)
      have q2 : decide (0 < (n : Int) + 1) = true := decide_eq_true (by omega)
      by_cases hs : r.short = true
      · rw [hw.stop (.inr hs)]
        repeat' (first | (with_reducible first | refine Cn (fun h => ?_) fun h => ?_ | refine And.intro ?_ ?_ | refine wR ?_ | exact wr _ _ | refine wa ?_ | apply awp_join) | (with_reducible refine CallZ.z ?_) | simp -dsimp [go_sem, hs, q1, q2])
        all_goals trace_state
      · have hs : r.short = false := by simpa using hs
        have hst := scStep_c (G := G) k t c ps is r l (by omega)
        have hnx := hw.next hs
        generalize scR r = q at *
        obtain ⟨t, r2⟩ := q
        simp only at hst hnx
        clear hsm
        unfold sHp at hst
        rw [hs] at hst
        repeat' (first | (with_reducible first | refine Cn (fun h => ?_) fun h => ?_ | refine And.intro ?_ ?_ | refine wR ?_ | exact wr _ _ | refine wa ?_ | apply awp_join | refine qg hst ?_ | refine qgd hst ?_) | (with_reducible refine CallZ.z ?_) | simp -dsimp [go_sem, hs, q1, q2, w1, w2, hen])
        all_goals first
          | omega
          | (refine Again.auto (n, r2, l ++ [t]) ?_ hnx ?_
             · simp -dsimp [go_sem]
             · show n < n + 1; omega)
          | trace_state
theorem valR_eq (r : Rd) : valR r = (⟨((smallR r).1 : Int), (txtR (smallR r).2).1, (numR (txtR (smallR r).2).2).1, (eachR prR (numR (txtR (smallR r).2).2).2).1, (eachR txtR (eachR prR (numR (txtR (smallR r).2).2).2).2).1, (eachR scR (eachR txtR (eachR prR (numR (txtR (smallR r).2).2).2).2).2).1⟩, (eachR scR (eachR txtR (eachR prR (numR (txtR (smallR r).2).2).2).2).2).2) := id rfl
theorem rvalue_c (r : Rd) : DetCall Tryz.prog G 59 1 (rHp r) [.one (.ptr 0 0)] (.agg (valR r).1.c) (rHp (valR r).2) := by
  rw [valR_eq]
  have h1 := rsmall_c (G := G) r
  generalize smallR r = q at *
  obtain ⟨k, r1⟩ := q
  simp only at h1 ⊢
  have h2 := rtext_c (G := G) r1
  generalize txtR r1 = q at *
  obtain ⟨t, r2⟩ := q
  simp only at h2 ⊢
  have h3 := rnumber_c (G := G) r2
  generalize numR r2 = q at *
  obtain ⟨c, r3⟩ := q
  simp only at h3 ⊢
  have h4 := prEach_c (G := G) k t c r3
  generalize eachR prR r3 = q at *
  obtain ⟨ps, r4⟩ := q
  simp only at h4 ⊢
  have h5 := rtexts_c (G := G) r4
  generalize eachR txtR r4 = q at *
  obtain ⟨is, r5⟩ := q
  simp only at h5 ⊢
  have h6 := scEach_c (G := G) k t c ps is r5
  generalize eachR scR r5 = q at *
  obtain ⟨ss, r6⟩ := q
  simp only at h6 ⊢
  unfold rHp at *
  unfold pHp at h4
  unfold sHp at h6
  simp only [Val.c]
  refine gcallc mixed Tryz.func59 ac_wire_reader_value ?_
  repeat' (first | (with_reducible first | refine Cn (fun h => ?_) fun h => ?_ | refine And.intro ?_ ?_ | refine wR ?_ | exact wr _ _ | refine wa ?_ | apply awp_join | refine qg h1 ?_ | refine qgd h1 ?_ | refine qg h2 ?_ | refine qgd h2 ?_ | refine qg h3 ?_ | refine qgd h3 ?_ | refine qg h4 ?_ | refine qgd h4 ?_ | refine qg h5 ?_ | refine qgd h5 ?_ | refine qg h6 ?_ | refine qgd h6 ?_ | refine q (simp -dsimp [go_sem]) ?_ | refine qd (simp -dsimp [go_sem]) ?_ | refine qz (simp -dsimp [go_sem]) ?_) | (refine CallZ.l (CallK.thaw 3 3 165 2 rfl rfl (by decide) (CallK.thaw 3 4 9 1 rfl rfl (by decide) (CallK.thaw 3 5 167 2 rfl rfl (by decide) ?_)))) | (with_reducible refine CallZ.z ?_) | simp -dsimp [go_sem])
  all_goals trace_state
end Go.Proofs.YtpdcfljbabpakaaGreatDoor
set_option linter.unusedVariables false
set_option linter.unusedSimpArgs false
set_option maxRecDepth 100000
set_option maxHeartbeats 8000000
namespace Go.Proofs.YtpdcfljbabpakaaGreatDoor
open Go Go.RowKit Go.Proofs.AE
variable {G : Nat → AV}
abbrev eHp (now nx : Int) (cs : List Cli) (r : Rd) (l : List Ent) : Hp := [some (.box 128 [.v (.sl (bR r.rest)), .v (.lit (.bool r.short))]), some (.box 125 [.ptr 0 0]), some (.box 28 [iC now, .ar 3, iC nx, .ar 4]), some (.arr 119 8 (eR l)), some (.arr 123 7 (clR cs))]
theorem entR_eq (r : Rd) : entR r = (⟨(txtR r).1, (valR (txtR r).2).1, (numR (valR (txtR r).2).2).1⟩, (numR (valR (txtR r).2).2).2) := id rfl
theorem enStep_c (now nx : Int) (cs : List Cli) (r : Rd) (l : List Ent) (hl : l.length ≤ 1000) : DetCall Tryz.prog G 57 3 (eHp now nx cs r l) [.one (.ptr 2 0), .one (.ptr 1 0)] (.tup []) (eHp now nx cs (entR r).2 (l ++ [(entR r).1])) := by
  rw [entR_eq]
  have h1 := rtext_c (G := G) r
  generalize txtR r = q at *
  obtain ⟨f, r1⟩ := q
  simp only at h1 ⊢
  have h2 := rvalue_c (G := G) r1
  generalize valR r1 = q at *
  obtain ⟨⟨vk, vt, vn, vp, vi, vs⟩, r2⟩ := q
  simp only [Val.c] at h2 ⊢
  have h3 := rnumber_c (G := G) r2
  generalize numR r2 = q at *
  obtain ⟨x, r3⟩ := q
  simp only at h3 ⊢
  have h4 : (eR l).length = l.length := by simp
  have h5 := ul_e l
  have h6 : eR (l ++ [⟨f, ⟨vk, vt, vn, vp, vi, vs⟩, x⟩]) = eR l ++ [[.lit (.string f), .lit (.int .i64 vk), .lit (.string vt), .lit (.int .i64 vn), .sl (pR vp), .sl (strRows vi), .sl (sR vs), .lit (.int .i64 x)]] := by simp [Ent.row]
  unfold eHp
  rw [h6]
  unfold rHp at h1 h2 h3
  refine gcallc mixed Tryz.func57 ac_wire_Decode_1 ?_
  repeat' (first | (with_reducible first | refine Cn (fun h => ?_) fun h => ?_ | refine And.intro ?_ ?_ | refine wR ?_ | exact wr _ _ | refine wa ?_ | apply awp_join | refine qg h1 ?_ | refine qgd h1 ?_ | refine qg h2 ?_ | refine qgd h2 ?_ | refine qg h3 ?_ | refine qgd h3 ?_) | (with_reducible refine CallZ.z ?_) | simp -dsimp [go_sem, h4, h5])
  all_goals first | omega | (simp [UL]; done) | trace_state
theorem enEach_c (now nx : Int) (cs : List Cli) (r0 : Rd) : DetCall Tryz.prog G 56 3 (eHp now nx cs r0 []) [.one (.ptr 0 0), .fn 57 [] [.ptr 2 0, .ptr 1 0]] (.tup []) (eHp now nx cs (eachR entR r0).2 (eachR entR r0).1) := by
  have hsm := rsmall_c (G := G) r0
  have hle := smallR_lt r0
  have hen := en57
  have hfirst := OnWay.first entR r0
  generalize smallR r0 = q at *
  obtain ⟨n, r⟩ := q
  simp only at hle hfirst
  refine gcallc mixed Tryz.func56 ac_wire_reader_each ?_
  unfold eHp
  unfold rHp at hsm
  repeat' (first | (with_reducible first | refine Cn (fun h => ?_) fun h => ?_ | refine And.intro ?_ ?_ | refine wR ?_ | exact wr _ _ | refine wa ?_ | apply awp_join | refine qg hsm ?_ | refine qgd hsm ?_) | (with_reducible refine CallZ.z ?_) | simp -dsimp [go_sem])
  refine awp_loop (fun x : Nat × Rd × List Ent => ⟨[(0, .one (.ptr 0 0)), (1, .fn 57 [] [.ptr 2 0, .ptr 1 0]), (4, iV x.1)], G, eHp now nx cs x.2.1 x.2.2⟩) (fun x => OnWay entR r0 x.1 x.2.1 x.2.2) (fun x => x.1) (n, r, []) (weak_auto ?_) hfirst ?_
  · simp -dsimp [go_sem]
  · rintro ⟨n, r, l⟩ hw
    simp only at hw
    have hwl := hw.le
    unfold eHp
    cases n with
    | zero =>
      rw [hw.stop (.inl rfl)]
      repeat' (first | (with_reducible first | refine Cn (fun h => ?_) fun h => ?_ | refine And.intro ?_ ?_ | refine wR ?_ | exact wr _ _ | refine wa ?_ | apply awp_join) | (with_reducible refine CallZ.z ?_) | simp -dsimp [go_sem])
      all_goals trace_state
    | succ n =>
      have w1 : IntKind.i64.wrap (n : Int) = (n : Int) := IntWalk.i64_in _ (by omega)
      have w2 : ((n + 1 : Nat) : Int) - 1 = (n : Int) := by omega
      have q1 : decide (0 < ((n + 1 : Nat) : Int)) = true := decide_eq_true (by omega)
      have q2 : decide (0 < (n : Int) + 1) = true := decide_eq_true (by omega)
      by_cases hs : r.short = true
      · rw [hw.stop (.inr hs)]
        repeat' (first | (with_reducible first | refine Cn (fun h => ?_) fun h => ?_ | refine And.intro ?_ ?_ | refine wR ?_ | exact wr _ _ | refine wa ?_ | apply awp_join) | (with_reducible refine CallZ.z ?_) | simp -dsimp [go_sem, hs, q1, q2])
        all_goals trace_state
      · have hs : r.short = false := by simpa using hs
        have hst := enStep_c (G := G) now nx cs r l (by omega)
        have hnx := hw.next hs
        generalize entR r = q at *
        obtain ⟨t, r2⟩ := q
        simp only at hst hnx
        clear hsm
        unfold eHp at hst
        rw [hs] at hst
        repeat' (first | (with_reducible first | refine Cn (fun h => ?_) fun h => ?_ | refine And.intro ?_ ?_ | refine wR ?_ | exact wr _ _ | refine wa ?_ | apply awp_join | refine qg hst ?_ | refine qgd hst ?_) | (with_reducible refine CallZ.z ?_) | simp -dsimp [go_sem, hs, q1, q2, w1, w2, hen])
        all_goals first
          | omega
          | (refine Again.auto (n, r2, l ++ [t]) ?_ hnx ?_
             · simp -dsimp [go_sem]
             · show n < n + 1; omega)
          | trace_state
abbrev cHp (now nx : Int) (es : List Ent) (r : Rd) (l : List Cli) : Hp := [some (.box 128 [.v (.sl (bR r.rest)), .v (.lit (.bool r.short))]), some (.box 125 [.ptr 0 0]), some (.box 28 [iC now, .ar 3, iC nx, .ar 4]), some (.arr 119 8 (eR es)), some (.arr 123 7 (clR l))]
def cliR3 (r : Rd) : (Int × Int × Int) × Rd := (((numR r).1, (numR (numR r).2).1, (numR (numR (numR r).2).2).1), (numR (numR (numR r).2).2).2)
def repR3 (r : Rd) : (Int × ByteArray × Int) × Rd := ((((smallR r).1 : Int), (txtR (smallR r).2).1, (numR (txtR (smallR r).2).2).1), (numR (txtR (smallR r).2).2).2)
theorem cliR_eq (r : Rd) : cliR r = (⟨(cliR3 r).1.1, (cliR3 r).1.2.1, (cliR3 r).1.2.2, ⟨(repR3 (cliR3 r).2).1.1, (repR3 (cliR3 r).2).1.2.1, (repR3 (cliR3 r).2).1.2.2, (eachR txtR (repR3 (cliR3 r).2).2).1⟩⟩, (eachR txtR (repR3 (cliR3 r).2).2).2) := id rfl
theorem cl_ul (l : List Cli) : UL 7 (clR l) := by
  intro r hr
  obtain ⟨y, _, rfl⟩ := List.mem_map.1 hr
  rfl
theorem clStep_c (now nx : Int) (es : List Ent) (r : Rd) (l : List Cli) (hl : l.length ≤ 1000) : DetCall Tryz.prog G 60 3 (cHp now nx es r l) [.one (.ptr 1 0), .one (.ptr 2 0)] (.tup []) (cHp now nx es (cliR r).2 (l ++ [(cliR r).1])) := by
  rw [cliR_eq]
  unfold cliR3 repR3
  have h1 := rnumber_c (G := G) r
  generalize numR r = q at *
  obtain ⟨id, r1⟩ := q
  simp only at h1 ⊢
  have h2 := rnumber_c (G := G) r1
  generalize numR r1 = q at *
  obtain ⟨seq, r2⟩ := q
  simp only at h2 ⊢
  have h3 := rnumber_c (G := G) r2
  generalize numR r2 = q at *
  obtain ⟨time, r3⟩ := q
  simp only at h3 ⊢
  have h4 := rsmall_c (G := G) r3
  generalize smallR r3 = q at *
  obtain ⟨code, r4⟩ := q
  simp only at h4 ⊢
  have h5 := rtext_c (G := G) r4
  generalize txtR r4 = q at *
  obtain ⟨tx, r5⟩ := q
  simp only at h5 ⊢
  have h6 := rnumber_c (G := G) r5
  generalize numR r5 = q at *
  obtain ⟨n, r6⟩ := q
  simp only at h6 ⊢
  have h7 := rtexts_c (G := G) r6
  generalize eachR txtR r6 = q at *
  obtain ⟨li, r7⟩ := q
  simp only at h7 ⊢
  have k1 : (clR l).length = l.length := by simp
  have k2 := cl_ul l
  have k3 : clR (l ++ [⟨id, seq, time, ⟨(code : Int), tx, n, li⟩⟩]) = clR l ++ [[.lit (.int .i64 id), .lit (.int .i64 seq), .lit (.int .i64 time), .lit (.int .i64 (code : Int)), .lit (.string tx), .lit (.int .i64 n), .sl (strRows li)]] := by simp [Cli.row]
  unfold cHp
  rw [k3]
  unfold rHp at *
  refine gcallc mixed Tryz.func60 ac_wire_Decode_2 ?_
  repeat' (first | (with_reducible first | refine Cn (fun h => ?_) fun h => ?_ | refine And.intro ?_ ?_ | refine wR ?_ | exact wr _ _ | refine wa ?_ | apply awp_join | refine qg h1 ?_ | refine qgd h1 ?_ | refine qg h2 ?_ | refine qgd h2 ?_ | refine qg h3 ?_ | refine qgd h3 ?_ | refine qg h4 ?_ | refine qgd h4 ?_ | refine qg h5 ?_ | refine qgd h5 ?_ | refine qg h6 ?_ | refine qgd h6 ?_ | refine qg h7 ?_ | refine qgd h7 ?_) | (with_reducible refine CallZ.z ?_) | simp -dsimp [go_sem, k1, k2])
  all_goals first | omega | (simp [UL]; done) | trace_state
theorem clEach_c (now nx : Int) (es : List Ent) (r0 : Rd) : DetCall Tryz.prog G 56 3 (cHp now nx es r0 []) [.one (.ptr 0 0), .fn 60 [] [.ptr 1 0, .ptr 2 0]] (.tup []) (cHp now nx es (eachR cliR r0).2 (eachR cliR r0).1) := by
  have hsm := rsmall_c (G := G) r0
  have hle := smallR_lt r0
  have hen := en60
  have hfirst := OnWay.first cliR r0
  generalize smallR r0 = q at *
  obtain ⟨n, r⟩ := q
  simp only at hle hfirst
  refine gcallc mixed Tryz.func56 ac_wire_reader_each ?_
  unfold cHp
  unfold rHp at hsm
  repeat' (first | (with_reducible first | refine Cn (fun h => ?_) fun h => ?_ | refine And.intro ?_ ?_ | refine wR ?_ | exact wr _ _ | refine wa ?_ | apply awp_join | refine qg hsm ?_ | refine qgd hsm ?_) | (with_reducible refine CallZ.z ?_) | simp -dsimp [go_sem])
  refine awp_loop (fun x : Nat × Rd × List Cli => ⟨[(0, .one (.ptr 0 0)), (1, .fn 60 [] [.ptr 1 0, .ptr 2 0]), (4, iV x.1)], G, cHp now nx es x.2.1 x.2.2⟩) (fun x => OnWay cliR r0 x.1 x.2.1 x.2.2) (fun x => x.1) (n, r, []) (weak_auto ?_) hfirst ?_
  · simp -dsimp [go_sem]
  · rintro ⟨n, r, l⟩ hw
    simp only at hw
    have hwl := hw.le
    unfold cHp
    cases n with
    | zero =>
      rw [hw.stop (.inl rfl)]
      repeat' (first | (with_reducible first | refine Cn (fun h => ?_) fun h => ?_ | refine And.intro ?_ ?_ | refine wR ?_ | exact wr _ _ | refine wa ?_ | apply awp_join) | (with_reducible refine CallZ.z ?_) | simp -dsimp [go_sem])
      all_goals trace_state
    | succ n =>
      have w1 : IntKind.i64.wrap (n : Int) = (n : Int) := IntWalk.i64_in _ (by omega)
      have w2 : ((n + 1 : Nat) : Int) - 1 = (n : Int) := by omega
      have q1 : decide (0 < ((n + 1 : Nat) : Int)) = true := decide_eq_true (by omega)
      have q2 : decide (0 < (n : Int) + 1) = true := decide_eq_true (by omega)
      by_cases hs : r.short = true
      · rw [hw.stop (.inr hs)]
        repeat' (first | (with_reducible first | refine Cn (fun h => ?_) fun h => ?_ | refine And.intro ?_ ?_ | refine wR ?_ | exact wr _ _ | refine wa ?_ | apply awp_join) | (with_reducible refine CallZ.z ?_) | simp -dsimp [go_sem, hs, q1, q2])
        all_goals trace_state
      · have hs : r.short = false := by simpa using hs
        have hst := clStep_c (G := G) now nx es r l (by omega)
        have hnx := hw.next hs
        generalize cliR r = q at *
        obtain ⟨t, r2⟩ := q
        simp only at hst hnx
        clear hsm
        unfold cHp at hst
        rw [hs] at hst
        repeat' (first | (with_reducible first | refine Cn (fun h => ?_) fun h => ?_ | refine And.intro ?_ ?_ | refine wR ?_ | exact wr _ _ | refine wa ?_ | apply awp_join | refine qg hst ?_ | refine qgd hst ?_) | (with_reducible refine CallZ.z ?_) | simp -dsimp [go_sem, hs, q1, q2, w1, w2, hen])
        all_goals first
          | omega
          | (refine Again.auto (n, r2, l ++ [t]) ?_ hnx ?_
             · simp -dsimp [go_sem]
             · show n < n + 1; omega)
          | trace_state
end Go.Proofs.YtpdcfljbabpakaaGreatDoor
set_option linter.unusedVariables false
set_option linter.unusedSimpArgs false
set_option maxRecDepth 100000
set_option maxHeartbeats 8000000
namespace Go.Proofs.YtpdcfljbabpakaaGreatDoor
open Go Go.RowKit Go.Proofs.AE
variable {G : Nat → AV}
theorem eachN_of {α : Type} {f : Rd → α × Rd} : ∀ (n : Nat) (r : Rd), ∀ a ∈ (eachN f n r).1, ∃ r', a = (f r').1
  | 0, r, a, h => by cases h
  | n + 1, r, a, h => by
    unfold eachN at h
    split at h
    · cases h
    · rcases List.mem_cons.1 h with rfl | h
      · exact ⟨r, rfl⟩
      · exact eachN_of n _ a h
theorem mach_small (r : Rd) : (machR r).1.sto.Small ∧ (machR r).1.clis.length ≤ 1000000 := by
  refine ⟨⟨?_, fun e he => ?_⟩, ?_⟩
  · show (eachR entR (numR r).2).1.length ≤ 1000
    have := eachR_len entR (numR r).2; omega
  · obtain ⟨r', rfl⟩ := eachN_of _ _ e he
    rw [entR_eq]
    show (valR (txtR r').2).1.Small
    rw [valR_eq]
    have h1 := eachR_len prR (numR (txtR (smallR (txtR r').2).2).2).2
    have h2 := eachR_len txtR (eachR prR (numR (txtR (smallR (txtR r').2).2).2).2).2
    have h3 := eachR_len scR (eachR txtR (eachR prR (numR (txtR (smallR (txtR r').2).2).2).2).2).2
    unfold Val.Small
    simp only
    omega
  · have := eachR_len cliR (numR (eachR entR (numR r).2).2).2
    show (eachR cliR (numR (eachR entR (numR r).2).2).2).1.length ≤ 1000000
    omega
theorem cloneB_c (l : List UInt8) (hx : l.length ≤ 1000000) : PCall Tryz.prog G 54 [.one (.v (.sl (bR l)))] (.one (.v (.sl (bR l)))) := by
  have h1 := bR_ul l
  have h2 := bR_len l
  refine pcallc mixed Tryz.func54 ac_slices_Clone_byte ?_
  repeat' (first | (with_reducible first | refine Cn (fun h => ?_) fun h => ?_ | refine And.intro ?_ ?_ | refine wR ?_ | exact wr _ _ | refine wa ?_ | apply awp_join | refine q (cases q) ?_ | refine qd (cases q) ?_ | refine qz (cases q) ?_) | (intro q hq) | (with_reducible refine CallZ.z ?_) | simp -dsimp [go_sem, h1, h2])
  all_goals first | omega | exact h1 | trace_state
theorem machR_eq (r : Rd) : machR r = (⟨⟨(numR r).1, (eachR entR (numR r).2).1⟩, (numR (eachR entR (numR r).2).2).1, (eachR cliR (numR (eachR entR (numR r).2).2).2).1⟩, (eachR cliR (numR (eachR entR (numR r).2).2).2).2) := id rfl
theorem endR_eq (r : Rd) : (if r.short then 9 else if true = false ∨ 0 < r.rest.length then 8 else 0 : Int) = endR r := by unfold endR; simp
theorem decode_c (l : List UInt8) : PCall Tryz.prog G 26 [.one (.v (.sl (bR l)))] (.tup [.agg (decM l).1.c, iV (decM l).2]) := by
  have hlen := bR_len l
  unfold decM
  by_cases h0 : 20000 < l.length
  · rw [if_pos h0]
    have q0 : decide (20000 < (l.length : Int)) = true := decide_eq_true (by omega)
    simp only [zeroM, zeroS, Mach.c, List.map_nil]
    refine pcallc mixed Tryz.func26 ac_wire_Decode ?_
    repeat' (first | (with_reducible first | refine Cn (fun h => ?_) fun h => ?_ | refine And.intro ?_ ?_ | refine wR ?_ | exact wr _ _ | refine wa ?_ | apply awp_join) | (with_reducible refine CallZ.z ?_) | simp -dsimp [go_sem, hlen, q0])
    all_goals trace_state
  · rw [if_neg h0]
    have q0 : decide (20000 < (l.length : Int)) = false := decide_eq_false (by omega)
    have hcl := cloneB_c (G := G) l (by omega)
    obtain ⟨hs1, hs2⟩ := mach_small ⟨l, false⟩
    have hck := checkM_c (G := G) (machR ⟨l, false⟩).1 hs1 hs2
    clear hs1 hs2
    rw [machR_eq] at hck ⊢
    have h1 := rnumber_c (G := G) ⟨l, false⟩
    generalize numR ⟨l, false⟩ = q at *
    obtain ⟨now, r1⟩ := q
    simp only at h1 hck ⊢
    have h2 := enEach_c (G := G) now 0 [] r1
    generalize eachR entR r1 = q at *
    obtain ⟨es, r2⟩ := q
    simp only at h2 hck ⊢
    have h3 := rnumber_c (G := G) r2
    generalize numR r2 = q at *
    obtain ⟨nx, r3⟩ := q
    simp only at h3 hck ⊢
    have h4 := clEach_c (G := G) now nx es r3
    generalize eachR cliR r3 = q at *
    obtain ⟨cs, r4⟩ := q
    simp only at h4 hck ⊢
    have h5 := rend_c (G := G) r4 true
    rw [endR_eq] at h5
    generalize endR r4 = e at *
    have he0 : eR [] = [] := rfl
    unfold rHp at h1 h3 h5
    unfold eHp at h2
    unfold cHp at h4
    simp only [Mach.c] at hck
    by_cases he : e ≠ 0
    · rw [if_pos he]
      have q1 : (e != 0) = true := by simpa using he
      simp only [zeroM, zeroS, Mach.c, List.map_nil]
      refine pcallc mixed Tryz.func26 ac_wire_Decode ?_
      repeat' (first | (with_reducible first | refine Cn (fun h => ?_) fun h => ?_ | refine And.intro ?_ ?_ | refine wR ?_ | exact wr _ _ | refine wa ?_ | apply awp_join | refine q hcl ?_ | refine qd hcl ?_ | refine qz hcl ?_ | refine qg h1 ?_ | refine qgd h1 ?_ | refine qg h2 ?_ | refine qgd h2 ?_ | refine qg h3 ?_ | refine qgd h3 ?_ | refine qg h4 ?_ | refine qgd h4 ?_ | refine qg h5 ?_ | refine qgd h5 ?_ | refine q (simp -dsimp [go_sem]) ?_ | refine qd (simp -dsimp [go_sem]) ?_ | refine qz (simp -dsimp [go_sem]) ?_) | (refine CallZ.l (CallK.thaw 3 1 119 8 rfl rfl (by decide) (CallK.thaw 3 3 123 7 rfl rfl (by decide) ?_))) | (with_reducible refine CallZ.z ?_) | simp -dsimp [go_sem, hlen, q0, q1])
      all_goals trace_state
    · rw [if_neg he]
      have q1 : (e != 0) = false := by simpa using he
      generalize checkM (⟨⟨now, es⟩, nx, cs⟩ : Mach) = v at *
      by_cases hv : v ≠ 0
      · rw [if_pos hv]
        have q2 : (v != 0) = true := by simpa using hv
        simp only [zeroM, zeroS, Mach.c, List.map_nil]
        refine pcallc mixed Tryz.func26 ac_wire_Decode ?_
        repeat' (first | (with_reducible first | refine Cn (fun h => ?_) fun h => ?_ | refine And.intro ?_ ?_ | refine wR ?_ | exact wr _ _ | refine wa ?_ | apply awp_join | refine q hcl ?_ | refine qd hcl ?_ | refine qz hcl ?_ | refine qg h1 ?_ | refine qgd h1 ?_ | refine qg h2 ?_ | refine qgd h2 ?_ | refine qg h3 ?_ | refine qgd h3 ?_ | refine qg h4 ?_ | refine qgd h4 ?_ | refine qg h5 ?_ | refine qgd h5 ?_ | refine q hck ?_ | refine qd hck ?_ | refine qz hck ?_ | refine q (simp -dsimp [go_sem]) ?_ | refine qd (simp -dsimp [go_sem]) ?_ | refine qz (simp -dsimp [go_sem]) ?_) | (refine CallZ.l (CallK.thaw 3 1 119 8 rfl rfl (by decide) (CallK.thaw 3 3 123 7 rfl rfl (by decide) ?_))) | (with_reducible refine CallZ.z ?_) | simp -dsimp [go_sem, hlen, q0, q1, q2])
        all_goals trace_state
      · rw [if_neg hv]
        have q2 : (v != 0) = false := by simpa using hv
        simp only [Mach.c]
        refine pcallc mixed Tryz.func26 ac_wire_Decode ?_
        repeat' (first | (with_reducible first | refine Cn (fun h => ?_) fun h => ?_ | refine And.intro ?_ ?_ | refine wR ?_ | exact wr _ _ | refine wa ?_ | apply awp_join | refine q hcl ?_ | refine qd hcl ?_ | refine qz hcl ?_ | refine qg h1 ?_ | refine qgd h1 ?_ | refine qg h2 ?_ | refine qgd h2 ?_ | refine qg h3 ?_ | refine qgd h3 ?_ | refine qg h4 ?_ | refine qgd h4 ?_ | refine qg h5 ?_ | refine qgd h5 ?_ | refine q hck ?_ | refine qd hck ?_ | refine qz hck ?_ | refine q (simp -dsimp [go_sem]) ?_ | refine qd (simp -dsimp [go_sem]) ?_ | refine qz (simp -dsimp [go_sem]) ?_) | (refine CallZ.l (CallK.thaw 3 1 119 8 rfl rfl (by decide) (CallK.thaw 3 3 123 7 rfl rfl (by decide) ?_))) | (with_reducible refine CallZ.z ?_) | simp -dsimp [go_sem, hlen, q0, q1, q2])
        all_goals trace_state
end Go.Proofs.YtpdcfljbabpakaaGreatDoor
