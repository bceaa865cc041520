/- Two programs of the same content (wherever they lie): Check and Shape say the same of them. No condition. -/
import Derived.Test.YtknnbckmdfnmaaaDoorShape
namespace Go.Proofs.YtknnbckmdfnmaaaDoor
open Go.RowKit

def Thr.bare (t : Thr) : ByteArray × List Ins × List Pla := (t.name, t.code, t.places)
structure Prg.Same (p q : Prg) : Prop where
  vars : p.vars = q.vars
  vols : p.vols = q.vols
  locks : p.locks = q.locks
  bars : p.bars = q.bars
  threads : p.threads.map Thr.bare = q.threads.map Thr.bare
theorem Prg.Same.refl (p : Prg) : p.Same p := ⟨rfl, rfl, rfl, rfl, rfl⟩
theorem Prg.Same.symm {p q : Prg} (h : p.Same q) : q.Same p := ⟨h.vars.symm, h.vols.symm, h.locks.symm, h.bars.symm, h.threads.symm⟩
theorem Prg.Same.trans {p q r : Prg} (h : p.Same q) (k : q.Same r) : p.Same r := ⟨h.vars.trans k.vars, h.vols.trans k.vols, h.locks.trans k.locks, h.bars.trans k.bars, h.threads.trans k.threads⟩
theorem Prg.Same.len {p q : Prg} (h : p.Same q) : p.threads.length = q.threads.length := by simpa using congrArg List.length h.threads
theorem Prg.Same.at_ {p q : Prg} (h : p.Same q) {i : Nat} {a b : Thr} (ha : p.threads[i]? = some a) (hb : q.threads[i]? = some b) : a.name = b.name ∧ a.code = b.code ∧ a.places = b.places := by
  have h1 : (p.threads.map Thr.bare)[i]? = some a.bare := by simp [ha]
  have h2 : (q.threads.map Thr.bare)[i]? = some b.bare := by simp [hb]
  rw [h.threads, h2] at h1
  have h3 := Option.some.inj h1
  exact ⟨(congrArg (·.1) h3).symm, (congrArg (·.2.1) h3).symm, (congrArg (·.2.2) h3).symm⟩
theorem Prg.Same.of {p q : Prg} (h1 : p.vars = q.vars) (h2 : p.vols = q.vols) (h3 : p.locks = q.locks) (h4 : p.bars = q.bars) (h5 : p.threads.length = q.threads.length)
    (h6 : ∀ (i : Nat) (a b : Thr), p.threads[i]? = some a → q.threads[i]? = some b → a.name = b.name ∧ a.code = b.code ∧ a.places = b.places) : p.Same q := by
  refine ⟨h1, h2, h3, h4, List.ext_getElem? fun i => ?_⟩
  rw [List.getElem?_map, List.getElem?_map]
  rcases Nat.lt_or_ge i p.threads.length with hi | hi
  · obtain ⟨a, ha⟩ := get_some hi
    obtain ⟨b, hb⟩ := get_some (l := q.threads) (k := i) (by omega)
    obtain ⟨e1, e2, e3⟩ := h6 i a b ha hb
    rw [ha, hb]
    simp [Thr.bare, e1, e2, e3]
  · rw [List.getElem?_eq_none hi, List.getElem?_eq_none (by omega)]
theorem threadR_same {a b : Thr} (h : a.bare = b.bare) (cnt : Nat → Nat) : threadR a cnt = threadR b cnt := by
  have h1 : a.code = b.code := congrArg (·.2.1) h
  have h2 : a.places = b.places := congrArg (·.2.2) h
  unfold threadR
  rw [h1, h2]
theorem scanT_same (cnt : Nat → Nat) : ∀ (l m : List Thr) (i sum : Nat), l.map Thr.bare = m.map Thr.bare → scanT cnt l i sum = scanT cnt m i sum
  | [], [], _, _, _ => rfl
  | [], _ :: _, _, _, h => by simp at h
  | _ :: _, [], _, _, h => by simp at h
  | a :: r, b :: s, i, sum, h => by
    have h1 : a.bare = b.bare := (List.cons.inj h).1
    have h2 : r.map Thr.bare = s.map Thr.bare := (List.cons.inj h).2
    have h3 : a.code = b.code := congrArg (·.2.1) h1
    unfold scanT
    rw [threadR_same h1, h3, scanT_same cnt r s _ _ h2]
theorem Prg.Same.names {p q : Prg} (h : p.Same q) : p.names = q.names := by
  funext k
  have ht : p.threads.map (·.name) = q.threads.map (·.name) := by
    have := congrArg (List.map (·.1)) h.threads
    simpa [Thr.bare, Function.comp_def] using this
  unfold Prg.names
  rw [h.vars, h.vols, h.locks, h.bars, ht]
theorem Prg.Same.check {p q : Prg} (h : p.Same q) : p.check = q.check := by
  have h1 : p.part0 = q.part0 := by unfold Prg.part0; rw [h.vars, h.vols, h.locks, h.bars, h.len]
  have h2 : p.cnt = q.cnt := by unfold Prg.cnt; rw [h.names]
  unfold Prg.check
  rw [h1, h.names, h.bars, h2, scanT_same _ _ _ _ _ h.threads]
theorem Prg.Same.shape {p q : Prg} (h : p.Same q) : p.shape = q.shape := by
  unfold Prg.shape
  rw [h.check, h.vars, h.vols, h.locks, h.bars, h.len]
end Go.Proofs.YtknnbckmdfnmaaaDoor
