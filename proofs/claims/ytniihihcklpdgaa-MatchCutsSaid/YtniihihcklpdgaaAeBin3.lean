/- The abstract evaluator, part 6: every operation that leaves memory alone gives a value of the kind that the evaluator says. -/
import Derived.Test.YtniihihcklpdgaaAeBin2
import Derived.Laws.Slices
import Derived.Laws.BytesArg
import Derived.Laws.Tables
set_option linter.unusedVariables false
set_option linter.unusedSimpArgs false
namespace Go.Proofs.AE
open Go Go.RowKit

section
variable {P : Program} {n : Nat} {w : World} {ok : Nat → Prop} {μ : List MB} {hp : Hp}

theorem intOfAV_rel {v : AV} {x : Value} {m : Int} (h : intOfAV v = some m) (hv : AVRel w ok μ v x) : ∃ k, x = .int k m := by
  unfold intOfAV at h
  split at h
  · cases h; cases hv with | one hc => cases hc with | v hc => cases hc with | lit _ _ => exact ⟨_, rfl⟩
  · cases h

theorem lit_rel {y x : Value} (hv : AVRel w ok μ (.one (.v (.lit y))) x) : x = y := by
  cases hv with | one hc => cases hc with | v hc => cases hc with | lit _ _ => rfl

theorem avlit {x : Value} (h : x.oneCell' = true) : AVRel w ok μ (.one (.v (.lit x))) x := .one (.v (.lit x h))

/-- The rows lie behind a slice's value. -/
def RowsAt (w : World) (ok : Nat → Prop) (rows : List (List V)) (x : Value) : Prop :=
  (x = .slice none 0 0 ∧ rows = []) ∨
  ∃ b off cap, x = .slice (some ⟨b, off, none⟩) rows.length cap ∧ rows.length ≤ cap ∧ cap ≤ maxLen ∧
    ∀ (i : Nat) row (j : Nat) v, rows[i]? = some row → row[j]? = some v → ∃ y, w.cell? ⟨b, off + (i * row.length + j), none⟩ = some y ∧ VRel w ok v y

theorem RowsAt.of_v {rows : List (List V)} {x : Value} (h : VRel w ok (.sl rows) x) : RowsAt w ok rows x := by
  cases h with
  | nil => exact .inl ⟨rfl, rfl⟩
  | sl _ b off cap cv hok hcap hmax hc hv => exact .inr ⟨b, off, cap, rfl, hcap, hmax, fun i row j v hi hj => ⟨_, hc i row j v hi hj, hv i row j v hi hj⟩⟩

theorem all2_get {α β : Type} {R : α → β → Prop} {l : List α} {m : List β} (h : All2 R l m) {i : Nat} {a : α} (ha : l[i]? = some a) : ∃ b, m[i]? = some b ∧ R a b := h.get ha

theorem arr_rows {e : TypeId} {k : Nat} {rows : List (List V)} {x : Value} (h : BRel w ok μ (.arr e k rows) (.arr x)) : RowsAt w ok rows x := by
  obtain ⟨xs, hown, hall, hk⟩ := h
  rcases hown.2 with ⟨rfl, hn⟩ | ⟨g, cap, cur, rfl, _, hg, hnc, hcm, hcs, htake⟩
  · exact .inl ⟨rfl, List.eq_nil_of_length_eq_zero hn⟩
  · refine .inr ⟨g, 0, cap, rfl, hnc, hcm, ?_⟩
    intro i row j v hi hj
    have hrl := hk row (List.mem_of_getElem? hi)
    have hjl : j < k := by
      rcases Nat.lt_or_ge j k with h' | h'
      · exact h'
      · rw [List.getElem?_eq_none (by omega)] at hj; cases hj
    have hf := flatten_get hk hi j hjl
    rw [hj] at hf
    obtain ⟨y, hy, hr⟩ := hall.get hf
    have hc := hown.cells (g := g) rfl (i * k + j) y hy
    rw [Addr.add_lit] at hc
    exact ⟨y, by rw [hrl]; simpa using hc, hr⟩

theorem rowsOf_rel {v : AV} {rows : List (List V)} {x : Value} (hr : HR w ok μ hp) (h : rowsOf hp v = some rows) (hv : AVRel w ok μ v x) : RowsAt w ok rows x := by
  unfold rowsOf at h
  split at h
  · cases h; cases hv with | one hc => cases hc with | v hc => exact .of_v hc
  · cases h; cases hv with | one hc => cases hc with | full hc => exact .of_v hc
  · cases h; cases hv with | one hc => cases hc with | nil => exact .inl ⟨rfl, rfl⟩
  · rename_i i
    split at h
    · rename_i e k rows' hb
      cases h
      obtain ⟨m, hm, hbr⟩ := hr.rel _ _ hb
      cases hv with | one hc => cases hc with | ar hμ _ =>
      rw [hμ] at hm; cases hm
      exact arr_rows hbr
    · cases h
  · cases h

theorem RowsAt.len {rows : List (List V)} {x : Value} (h : RowsAt w ok rows x) : ∃ a cap, x = .slice a rows.length cap := by
  rcases h with ⟨rfl, rfl⟩ | ⟨b, off, cap, rfl, _⟩
  · exact ⟨_, _, rfl⟩
  · exact ⟨_, _, rfl⟩

/-! ### conversions -/
theorem byteOf_spec {l : List V} {b : UInt8} (h : byteOf l = some b) : ∃ m, l = [.lit (.int .u8 m)] ∧ b = UInt8.ofNat m.toNat := by
  unfold byteOf at h
  split at h
  · cases h; exact ⟨_, rfl, rfl⟩
  · cases h

theorem bytesOf_spec : ∀ {rows : List (List V)} {l : List UInt8}, bytesOf rows = some l → ∃ ns : List Int, rows = ns.map (fun m => [.lit (.int .u8 m)]) ∧ l = ns.map fun m => UInt8.ofNat m.toNat
  | [], l, h => by cases h; exact ⟨[], rfl, rfl⟩
  | r :: rs, l, h => by
    unfold bytesOf at h
    split at h
    · rename_i b l' hb hl
      cases h
      obtain ⟨m, rfl, rfl⟩ := byteOf_spec hb
      obtain ⟨ns, rfl, rfl⟩ := bytesOf_spec hl
      exact ⟨m :: ns, rfl, rfl⟩
    · cases h

theorem conv_sound {src dst : TypeId} {v r : AV} {x : Value} (hr : HR w ok μ hp) (h : convAV P (tiOf P src) (tiOf P dst) hp v = some r) (hv : AVRel w ok μ v x) :
    ∃ y, (convert src dst x).run P w = .ok y w ∧ AVRel w ok μ r y := by
  unfold convAV at h
  split at h
  · rename_i sh k k' m hs hd
    cases h
    obtain rfl := lit_rel hv
    obtain ⟨i, hi, _⟩ := Option.map_eq_some_iff.1 hs
    obtain ⟨j, hj, hj'⟩ := Option.map_eq_some_iff.1 hd
    obtain ⟨d, hd1, _⟩ := (tiOf_spec hi).und
    have hd2 := (tiOf_spec hj).int hj'
    refine ⟨_, ?_, avlit rfl⟩
    simp [convert, run_underlying hd1, run_underlying hd2, Conv.intToInt]
  · rename_i s hs hd
    cases h
    obtain rfl := lit_rel hv
    obtain ⟨i, hi, hi'⟩ := Option.map_eq_some_iff.1 hs
    obtain ⟨j, hj, hj'⟩ := Option.map_eq_some_iff.1 hd
    have hd1 := (tiOf_spec hi).string hi'
    have hd2 := (tiOf_spec hj).string hj'
    refine ⟨_, ?_, avlit rfl⟩
    simp [convert, run_underlying hd1, run_underlying hd2]
  · rename_i e hs hd
    split at h
    · rename_i he
      obtain ⟨l, hl, rfl⟩ := Option.map_eq_some_iff.1 h
      obtain ⟨rows, hrows, hbytes⟩ := Option.bind_eq_some_iff.1 hl
      obtain ⟨ns, rfl, rfl⟩ := bytesOf_spec hbytes
      obtain ⟨i, hi, hi'⟩ := Option.map_eq_some_iff.1 hs
      obtain ⟨j, hj, hj'⟩ := Option.map_eq_some_iff.1 hd
      obtain ⟨ie, hie, hie'⟩ := Option.map_eq_some_iff.1 he
      have hd1 := (tiOf_spec hi).slice hi'
      have hd2 := (tiOf_spec hj).string hj'
      have hd3 := (tiOf_spec hie).int hie'
      rcases rowsOf_rel hr hrows hv with ⟨rfl, hn⟩ | ⟨b, off, cap, rfl, _, _, hc⟩
      · have : ns = [] := by simpa using hn
        subst this
        exact ⟨_, run_convert_bytes_nil w src e hd1 hd3 0 0 dst hd2, avlit rfl⟩
      · refine ⟨_, run_convert_bytes_arg w src e hd1 hd3 b off _ cap ns (by simp) ?_ dst hd2, avlit rfl⟩
        intro i' hi'
        have hi2 : i' < ns.length := by simpa using hi'
        obtain ⟨y, hy, hyr⟩ := hc i' [.lit (.int .u8 ns[i'])] 0 (.lit (.int .u8 ns[i'])) (by simp [List.getElem?_eq_getElem hi2]) rfl
        cases hyr with | lit _ _ =>
        simp only [List.length_cons, List.length_nil, Nat.mul_one, Nat.add_zero, Nat.zero_add] at hy
        rw [hy]; simp [List.getD, List.getElem?_eq_getElem hi2]
    · cases h
  · cases h

/-! ### addresses -/
theorem fieldAddr_sound {t : TypeId} {i : TI} {f : Nat} {v r : AV} {x : Value} (hi : tiOf P t = some i) (h : fieldAddrAV i f v = some r) (hv : AVRel w ok μ v x) :
    ∃ y, (Instr.fieldAt t x f).run P w = .ok y w ∧ AVRel w ok μ r y := by
  unfold fieldAddrAV at h
  split at h
  · rename_i fs hfs
    obtain ⟨as, hu, hmap, hsz⟩ := (tiOf_spec hi).struct hfs
    split at h
    · rename_i ft o hf
      rw [hmap, List.getElem?_map] at hf
      obtain ⟨fd, hfd, he⟩ := Option.map_eq_some_iff.1 hf
      cases he
      obtain ⟨j, hj, hjz⟩ := hsz fd (List.mem_of_getElem? hfd)
      have hfa : as[f]? = some fd := by simpa using hfd
      have run : ∀ ad : Addr, (Instr.fieldAt t (.pointer (some ad)) f).run P w = .ok (.pointer (some (ad.add fd.offset))) w := by
        intro ad
        simp [Instr.fieldAt, run_underlying hu, hfa, Instr.sureAddr, fieldPlace, sizeOf, typeInfo, hj, hjz]
      split at h
      · cases h
        cases hv with | one hc => cases hc with | ptr _ hμ =>
        refine ⟨_, run _, ?_⟩
        rw [Addr.add_lit]; exact .one (.ptr _ hμ)
      · cases h
        cases hv with | one hc => cases hc with | eptr _ _ _ hμ =>
        refine ⟨_, run _, ?_⟩
        rw [Addr.add_lit, Nat.add_assoc]; exact .one (.eptr _ _ _ hμ)
      · cases h
        cases hv with | one hc => cases hc with | vptr b off cv hok hcell hrel =>
        refine ⟨_, run _, ?_⟩
        rw [Addr.add_lit]
        refine .one (.vptr b _ (fun j => cv (fd.offset + j)) hok ?_ ?_)
        · intro j v hj
          rw [List.getElem?_drop] at hj
          have := hcell _ v hj
          rwa [← Nat.add_assoc] at this
        · intro j v hj
          rw [List.getElem?_drop] at hj
          exact hrel _ v hj
      · cases h
    · cases h
  · cases h

theorem field_sound {t : TypeId} {i : TI} {f : Nat} {v r : AV} {x : Value} (hi : tiOf P t = some i) (h : fieldAV P i f v = some r) (hv : AVRel w ok μ v x) :
    ∃ y, (Instr.field t x f).run P w = .ok y w ∧ AVRel w ok μ r y := by
  unfold fieldAV at h
  split at h
  · rename_i fs hfs
    obtain ⟨as, hu, hmap, hsz⟩ := (tiOf_spec hi).struct hfs
    split at h
    · rename_i ft o hf
      rw [hmap, List.getElem?_map] at hf
      obtain ⟨fd, hfd, he⟩ := Option.map_eq_some_iff.1 hf
      cases he
      have hfa : as[f]? = some fd := by simpa using hfd
      split at h
      · rename_i cs j hj
        have hj2 := tiOf_spec hj
        cases hv with
        | agg hall =>
          rename_i xs
          have hall2 := (hall.drop fd.offset).take j.size
          obtain ⟨h1, h2, h3⟩ := mkAV_rel h hall2
          have hle : fd.offset + j.size ≤ xs.size := by
            rw [List.length_take, List.length_drop, Array.length_toList] at h3
            have : 0 < j.size ∨ j.size = 0 := by omega
            rcases this with h' | h'
            · omega
            · obtain ⟨q, hq, hqz⟩ := hsz fd (List.mem_of_getElem? hfd)
              obtain ⟨q', hq', hs'⟩ := hj2.size
              rw [hq] at hq'; cases hq'; omega
          simp only [Instr.field, Sem.run_bind, run_underlying hu, Result.andThen_ok, hfa, asAgg, Sem.run_pure]
          simp only [part, Sem.run_bind, hj2.und_agg, Result.andThen_ok]
          by_cases hg : j.isAgg = true
          · refine ⟨_, ?_, h1 hg⟩
            simp only [hg, if_true, Sem.run_bind, run_sizeOf hj2, Result.andThen_ok, Sem.run_pure]
            congr 2
            apply Array.ext'
            simp [List.take_drop]
            
          · have hg' : j.isAgg = false := by simpa using hg
            obtain ⟨y, hy, hyr⟩ := h2 hg'
            refine ⟨y, ?_, hyr⟩
            simp only [hg', Bool.false_eq_true, if_false]
            have hone : j.size = 1 := by rw [← h3, hy]; rfl
            have : xs[fd.offset]? = some y := by
              have hz : (((xs.toList.drop fd.offset).take j.size))[0]? = some y := by rw [hy]; rfl
              rw [List.getElem?_take, if_pos (by omega), List.getElem?_drop] at hz
              simpa using hz
            rw [this]; rfl
      · cases h
    · cases h
  · cases h

end
end Go.Proofs.AE
