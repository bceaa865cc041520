/- Plain words: what a program that check.Check takes is good for; which threads may be started. No condition. -/
import Derived.Test.YtgdnpmpnkbnjaaaGreatDoorZI
import Derived.Test.YtgdnpmpnkbnjaaaGreatDoorZE
namespace Go.Proofs.YtgdnpmpnkbnjaaaGreatDoor
open Go.RowKit

structure Good (p : Prg) : Prop where
  thr1 : 0 < p.threads.length
  thr2 : p.threads.length ≤ 65535
  vars : p.vars.length ≤ 4096
  locks : p.locks.length ≤ 4096
  code : ∀ t ∈ p.threads, OkCode t.code
  stay : ∀ t ∈ p.threads, ∀ (k : Nat) (x : Ins), t.code[k]? = some x → Stay p t k x
theorem good_of {p : Prg} (h : p.check.e = 0) : Good p := by
  obtain ⟨h0, _, _, h3⟩ := check_good h
  obtain ⟨c1, _, c3, _, c5, c6⟩ := cntPart_lt h0
  have hs : ∀ t ∈ p.threads, ∀ (k : Nat) (x : Ins), t.code[k]? = some x → Stay p t k x := fun t ht k x hx => stay_law h ht hx
  refine ⟨by omega, c6, c1, c3, fun t ht => ?_, hs⟩
  obtain ⟨h1, h2, _⟩ := scanT_none h3 t ht
  exact ⟨by omega, h2, fun i x hx ho => (hs t ht i x hx).goes ho, fun i x hx h8 h20 => (hs t ht i x hx).next_ h8 h20⟩
theorem Good.num {p : Prg} (h : Good p) {t : Thr} (ht : t ∈ p.threads) {k : Nat} {x : Ins} (hx : t.code[k]? = some x) (ho : listOf x.op ≠ 0) : 0 ≤ x.n ∧ x.n < (p.cnt (listOf x.op) : Int) := (h.stay t ht k x hx).num ho
theorem Good.fork {p : Prg} (h : Good p) {t : Thr} (ht : t ∈ p.threads) {k : Nat} {x : Ins} (hx : t.code[k]? = some x) (ho : x.op = 17) : 0 ≤ x.n ∧ x.n < (p.threads.length : Int) := by
  have := h.num ht hx (by rw [ho]; decide)
  rw [ho] at this
  simpa [listOf, Prg.cnt, Prg.names] using this
theorem Good.lock {p : Prg} (h : Good p) {t : Thr} (ht : t ∈ p.threads) {k : Nat} {x : Ins} (hx : t.code[k]? = some x) (ho : x.op = 15 ∨ x.op = 16) : 0 ≤ x.n ∧ x.n < (p.locks.length : Int) := by
  have := h.num ht hx (by rcases ho with ho | ho <;> rw [ho] <;> decide)
  rcases ho with ho | ho <;> (rw [ho] at this; simpa [listOf, Prg.cnt, Prg.names] using this)
theorem Good.small {p : Prg} (h : Good p) (hc : p.check.e = 0) {t : Thr} (ht : t ∈ p.threads) {k : Nat} {x : Ins} (hx : t.code[k]? = some x) (ho : listOf x.op ≠ 0) : 0 ≤ x.n ∧ x.n < 1048576 := by
  obtain ⟨h0, _⟩ := check_good hc
  obtain ⟨c1, c2, c3, c4, _, c6⟩ := cntPart_lt h0
  have h1 := h.num ht hx ho
  have h2 : p.cnt (listOf x.op) ≤ 65535 := by
    have h6 := listOf_lt x.op
    generalize listOf x.op = q at *
    have : q = 0 ∨ q = 1 ∨ q = 2 ∨ q = 3 ∨ q = 4 ∨ q = 5 := by omega
    rcases this with rfl | rfl | rfl | rfl | rfl | rfl <;> simp [Prg.cnt, Prg.names] <;> omega
  omega
/-- which threads a thread starts -/
noncomputable def Prg.nxtT (p : Prg) (t : Nat) : List Nat :=
  match p.threads[t]? with
  | some th => listM (namedM th.code (comeM th.code) 17)
  | none => []
theorem nxtT_get {p : Prg} {t : Nat} {th : Thr} (h : p.threads[t]? = some th) : p.nxtT t = listM (namedM th.code (comeM th.code) 17) := by
  unfold Prg.nxtT
  rw [h]
theorem nxtT_lt {p : Prg} (h : Good p) {t k : Nat} (hk : k ∈ p.nxtT t) : k < p.threads.length := by
  unfold Prg.nxtT at hk
  split at hk
  · next th ht =>
    rw [listM_mem, namedM_bit] at hk
    obtain ⟨i, x, hx, ho, _, rfl⟩ := hk
    have := h.fork (List.mem_of_getElem? ht) hx ho
    omega
  · cases hk
theorem nxtT_clo {p : Prg} (h : Good p) {k : Nat} (hk : Clo p.nxtT k) : k < p.threads.length := by
  cases hk with
  | zero => exact h.thr1
  | step _ hk => exact nxtT_lt h hk
noncomputable def Prg.startM (p : Prg) : Nat := maskOf (Clo p.nxtT) p.threads.length
theorem startM_bit {p : Prg} (h : Good p) (k : Nat) : p.startM.testBit k = true ↔ Clo p.nxtT k := by
  unfold Prg.startM
  rw [maskOf_bit]
  exact ⟨fun h1 => h1.2, fun h1 => ⟨nxtT_clo h h1, h1⟩⟩
theorem start_mask {p : Prg} (h : Good p) {S : Nat} (hS : ∀ k, S.testBit k = true ↔ Clo p.nxtT k) : S = p.startM :=
  mask_ext fun k => by rw [hS k, startM_bit h]
theorem nxtT_len {p : Prg} (h : Good p) (t : Nat) : (p.nxtT t).length ≤ 65535 := by
  unfold Prg.nxtT
  split
  · next th ht =>
    rw [listM_bound _ p.threads.length fun k hk => nxtT_lt h (t := t) (by rw [nxtT_get ht, listM_mem]; exact hk)]
    exact Nat.le_trans (List.length_filter_le _ _) (by simp; exact h.thr2)
  · simp
end Go.Proofs.YtgdnpmpnkbnjaaaGreatDoor
