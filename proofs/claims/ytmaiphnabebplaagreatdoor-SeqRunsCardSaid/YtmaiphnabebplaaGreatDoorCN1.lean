/- A call that is made twice; plain laws of what is known of clients. -/
import Derived.Test.YtmaiphnabebplaaGreatDoorCL9
set_option linter.unusedVariables false
set_option linter.unusedSimpArgs false
set_option maxRecDepth 100000
set_option maxHeartbeats 8000000
namespace Go.Proofs.YtmaiphnabebplaaGreatDoor
open Go Go.RowKit Go.Proofs.AE
theorem rise_set {l : List Cli} (h : RiseC l) {j : Nat} {x y : Cli} (hj : l[j]? = some x) (e : y.id = x.id) : RiseC (l.set j y) := by
  unfold RiseC at h ⊢
  rw [← List.pairwise_map (f := Cli.id) (R := fun a b => a < b)] at h ⊢
  have : (l.set j y).map Cli.id = l.map Cli.id := by
    rw [List.map_set]
    refine List.ext_getElem? fun q => ?_
    rw [List.getElem?_set]
    split
    · rename_i hq
      subst hq
      rw [if_pos (by rw [List.length_map]; exact (List.getElem?_eq_some_iff.1 hj).1), List.getElem?_map, hj, e]; rfl
    · rfl
  rw [this]; exact h
/-- A call that is done, and what it makes of a machine. -/
theorem done_p {m : Mach} (h : OkM m) {j : Nat} {x : Cli} (hj : m.clis[j]? = some x) {c : Cal} (hc : checkCl c = 0) (hz : c.client ≠ 0) (hid : c.client = x.id) (hs : c.seq = x.seq + 1) :
    ∃ S R, ApplyS m.sto m.sto.now c.cmd = (S, R, 0) ∧ DoM m m.sto.now c = (⟨S, m.next, m.clis.set j ⟨x.id, c.seq, S.now, R⟩⟩, R, 0) ∧ OkM ⟨S, m.next, m.clis.set j ⟨x.id, c.seq, S.now, R⟩⟩ ∧ S.now = m.sto.now ∧ OkR R ∧ (m.clis.set j ⟨x.id, c.seq, S.now, R⟩)[j]? = some ⟨x.id, c.seq, S.now, R⟩ := by
  have hcc := (call_cmd hc hz).2.2
  have e0 := do_now h hc
  have hk := callM_known h.rise hj (t := m.sto.now) hid hz
  rw [if_neg (by omega), if_neg (by omega)] at hk
  have hok := (call_ok h h.sto.now.1 h.sto.now.2 hc)
  obtain ⟨ea, _⟩ := apply_now h.sto hcc
  have hap : (ApplyS m.sto m.sto.now c.cmd) = ((ApplyS m.sto m.sto.now c.cmd).1, (ApplyS m.sto m.sto.now c.cmd).2.1, 0) := by rw [ea]
  have hn : (ApplyS m.sto m.sto.now c.cmd).1.now = m.sto.now := by rw [ea]
  rw [hk] at hok e0
  have hg : (m.clis.set j ⟨x.id, c.seq, (ApplyS m.sto m.sto.now c.cmd).1.now, (ApplyS m.sto m.sto.now c.cmd).2.1⟩)[j]? = some ⟨x.id, c.seq, (ApplyS m.sto m.sto.now c.cmd).1.now, (ApplyS m.sto m.sto.now c.cmd).2.1⟩ := by
    rw [List.getElem?_set_self (List.getElem?_eq_some_iff.1 hj).1]
  exact ⟨_, _, hap, e0, hok.1, hn, hok.2, hg⟩
/-- One whose call was its last one is told the same, now and later. -/
theorem again_p {m : Mach} (h : OkM m) {j : Nat} {x : Cli} (hj : m.clis[j]? = some x) {c : Cal} (hc : checkCl c = 0) (hz : c.client ≠ 0) (hid : c.client = x.id) (hs : c.seq = x.seq) :
    DoM m m.sto.now c = (m, x.reply, 0) ∧ ∀ w, 0 ≤ w → m.sto.now + w ≤ 1073741824 → ∃ s, DoM m (m.sto.now + w) c = (⟨s, m.next, m.clis⟩, x.reply, 0) := by
  constructor
  · rw [do_now h hc, callM_known h.rise hj hid hz, if_pos hs]
  · intro w w0 w1
    have hn := h.sto.now.1
    obtain ⟨e, hmid, _, _⟩ := do_ok h (t := m.sto.now + w) (by omega) w1 hc
    have hk := fun s : Sto => callM_known (m := ⟨s, m.next, m.clis⟩) h.rise hj (t := m.sto.now + w) hid hz
    refine ⟨⟨maxI m.sto.now (m.sto.now + w), aliveS (maxI m.sto.now (m.sto.now + w)) m.sto⟩, ?_⟩
    rw [e, hk, if_pos hs]
/-- One who leaves one out, or comes late. -/
theorem order_p {m : Mach} (h : OkM m) {j : Nat} {x : Cli} (hj : m.clis[j]? = some x) {c : Cal} (hc : checkCl c = 0) (hz : c.client ≠ 0) (hid : c.client = x.id) (h1 : c.seq ≠ x.seq) (h2 : c.seq ≠ x.seq + 1) : DoM m m.sto.now c = (m, failR 10, 0) := by
  rw [do_now h hc, callM_known h.rise hj hid hz, if_neg h1, if_pos h2]
theorem gone_p {m : Mach} (h : OkM m) {c : Cal} (hc : checkCl c = 0) (hz : c.client ≠ 0) (hn : ∀ x ∈ m.clis, x.id ≠ c.client) : DoM m m.sto.now c = (m, failR 11, 0) := by
  rw [do_now h hc, callM_gone hz hn]
/-- An opened machine has one that is new behind all others. -/
theorem opened_last {l : List Deed} (hl : ∀ d ∈ l, d.Ok) : ∃ L : List Cli, (openedV l).clis = L ++ [⟨(openedV l).next - 1, 0, (openedV l).sto.now, toldR 0⟩] ∧ L.length ≤ 3 ∧ 1 ≤ (openedV l).next - 1 ∧ (openedV l).next ≤ 42 := by
  obtain ⟨h1, _⟩ := machV_inv l hl
  have hx := h1.next
  obtain ⟨L, _, hL, e, _⟩ := openM_last h1.ok (by omega)
  have h0 := h1.ok.next.1
  unfold openedV
  rw [e]
  refine ⟨L, ?_, hL, ?_, ?_⟩
  · show L ++ [_] = L ++ [_]
    simp only [show (machV l).next + 1 - 1 = (machV l).next by omega]
  · show 1 ≤ (machV l).next + 1 - 1; omega
  · show (machV l).next + 1 ≤ 42; omega
theorem last_get {L : List Cli} {x : Cli} : (L ++ [x])[L.length]? = some x := by simp
end Go.Proofs.YtmaiphnabebplaaGreatDoor
