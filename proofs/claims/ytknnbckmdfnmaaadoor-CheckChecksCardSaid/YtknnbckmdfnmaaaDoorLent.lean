/- Contract of abreastlaw11.lent: a program of the same content, every list in a row of the call's own, a mark behind each. Condition: the program lies in memory and fits. (The like parts of the walk were printed by a small program.) -/
import Derived.Test.YtknnbckmdfnmaaaDoorCopied
import Derived.Deep.RegionLaw
import Derived.Deep.DrawnRows
import Derived.Deep.DeepCutAuto
import Derived.Deep.AppendLies
namespace Go.Proofs.YtknnbckmdfnmaaaDoor
open Go.RowKit
attribute [local go_sem ↓] Go.wp_at_zero Go.wp_at_succ

theorem rowOf_mark {α : Type} (e : TypeId) (size : Nat) (enc : α → List Value) (A : Option Addr) (c : Nat) (l : List α) (m : α) : rowOf e size enc A c l (xtra true m) = ⟨e, size, A, l.length + 1, c, l.flatMap enc ++ enc m⟩ := by simp [rowOf, xtra]
theorem grown_pre {W w1 : World} {o : Obj} {row : Option Nat} (h : ((W.alloc o).drew).grownBy w1 row) : W.grownBy w1 row :=
  ⟨h.os, h.tape, h.output, Nat.le_trans (by simp) h.size, fun i hi hne => (h.block i (by simp; omega) hne).trans (Below.heap_alloc W o i hi)⟩
/-- room for one element more in each thread's lists -/
def Prg.Room (p : Prg) : Prop := ∀ t ∈ p.threads, t.code.length * 40 ≤ 140737488351232 ∧ t.places.length * 16 ≤ 140737488351232
/-- where lent stands: p in the first box, nothing in the second (the result's), q in box b, its lists in rows of the call's own -/
structure LSt (w : World) (p : Prg) (cs : Array Value) (R : Ix → RowD) (b : Nat) (W : World) : Prop where
  bel : Below w.heap.size w W
  hp : Blk W w.heap.size 27 p.arr
  hr : Blk W (w.heap.size + 1) 27 #[ns, ns, ns, ns, ns]
  hq : Blk W b 27 cs
  rows : AllRows W (w.heap.size + 1 + 1) R
  out : ∀ x a, (R x).A = some a → a.block ≠ b
  hb : w.heap.size + 1 + 1 ≤ b
section
variable {w W W1 : World} {p : Prg} {cs : Array Value} {R : Ix → RowD} {b : Nat}
theorem LSt.below (h : LSt w p cs R b W) (hb : Below W.heap.size W W1) : LSt w p cs R b W1 :=
  ⟨h.bel.trans (hb.mono h.bel.size), h.hp.below hb h.hp.lt, h.hr.below hb h.hr.lt, h.hq.below hb h.hq.lt, h.rows.below hb, h.out, h.hb⟩
theorem LSt.row_ne (h : LSt w p cs R b W) (j : Ix) : (R j).A.map (·.block) ≠ some b := by
  intro e
  obtain ⟨a, ha, hab⟩ := Option.map_eq_some_iff.1 e
  exact h.out j a ha hab
theorem LSt.row_ge (h : LSt w p cs R b W) (j : Ix) : ∀ k, (R j).A.map (·.block) = some k → w.heap.size + 1 + 1 ≤ k := by
  intro k e
  obtain ⟨a, ha, rfl⟩ := Option.map_eq_some_iff.1 e
  exact ((h.rows.own j).lt ha).1
/-- a row grew (or moved) -/
theorem LSt.app (h : LSt w p cs R b W) (j : Ix) {A : Option Addr} {n c g m : Nat} {xs : List Value} (hA : A = some ⟨g, 0, none⟩) (ho : W1.ownsRow (w.heap.size + 1 + 1) (R j).e (R j).size (.slice A n c) n xs)
    (hg : W.grownBy W1 ((R j).A.map (·.block))) (hat : (R j).A.map (·.block) = some g ∨ g = W.heap.size + m) : LSt w p cs (upd R j ⟨(R j).e, (R j).size, A, n, c, xs⟩) b W1 := by
  have hB := h.hq.lt
  have hb2 := h.hb
  refine ⟨h.bel.grown hg h.bel.size (fun k hk => by have := h.row_ge j k hk; omega), h.hp.grown hg (fun e => by have := h.row_ge j _ e.symm; omega), h.hr.grown hg (fun e => by have := h.row_ge j _ e.symm; omega), h.hq.grown hg (fun e => h.row_ne j e.symm), ?_, ?_, h.hb⟩
  · refine h.rows.put j _ ho hg fun a ha => ?_
    have ha : A = some a := ha
    rw [hA] at ha
    injection ha with ha
    subst ha
    rcases hat with hat | hat
    · obtain ⟨a1, ha1, e⟩ := Option.map_eq_some_iff.1 hat
      exact .inl ⟨a1, ha1, e⟩
    · exact .inr (by simp only; omega)
  · intro x a ha
    by_cases hx : x = j
    · subst hx
      rw [upd_self] at ha
      have ha : A = some a := ha
      rw [hA] at ha
      injection ha with ha
      subst ha
      rcases hat with hat | hat
      · exact fun e => h.row_ne x (by rw [hat, ← e])
      · simp only; omega
    · rw [upd_other _ _ hx] at ha
      exact h.out x a ha
/-- a cell of q's box turned -/
theorem LSt.head (h : LSt w p cs R b W) (k : Nat) (v : Value) : LSt w p (cs.setIfInBounds k v) R b (W.setCell ⟨b, k, none⟩ v) := by
  have hb2 := h.hb
  exact ⟨h.bel.setCell (by simp only; omega) _, h.hp.far (by simp only; omega) _, h.hr.far (by simp only; omega) _, h.hq.set_ k v, h.rows.setOut h.out v, h.out, h.hb⟩
/-- a cell of a row turned -/
theorem LSt.cell_ (h : LSt w p cs R b W) (j : Ix) {g : Nat} (hA : (R j).A = some ⟨g, 0, none⟩) (i : Nat) (u : Value) :
    LSt w p cs (upd R j ⟨(R j).e, (R j).size, (R j).A, (R j).n, (R j).c, (R j).xs.set i u⟩) b (W.setCell ⟨g, i, none⟩ u) := by
  have h1 := ((h.rows.own j).lt hA).1
  have h2 := h.out j _ hA
  have hg : w.heap.size + 1 + 1 ≤ g := h1
  refine ⟨h.bel.setCell (by simp only; omega) _, h.hp.far (by simp only; omega) _, h.hr.far (by simp only; omega) _, h.hq.far (p := ⟨g, i, none⟩) (fun e => h2 e.symm) _, h.rows.set j hA i u, ?_, h.hb⟩
  intro x a ha
  by_cases hx : x = j
  · subst hx
    rw [upd_self] at ha
    exact h.out x a ha
  · rw [upd_other _ _ hx] at ha
    exact h.out x a ha
theorem LSt.mark (h : LSt w p cs R b W) (j : Ix) (k : Nat) {v : Value} (hv : v.ownBlock = (R j).A.map (·.block)) {n c g : Nat} {xs : List Value} (ho : W1.ownsRow (w.heap.size + 1 + 1) (R j).e (R j).size (.slice (some ⟨g, 0, none⟩) (n + 1) c) (n + 1) xs)
    (hg : W.grownBy W1 v.ownBlock) (hat : v.ownBlock = some g ∨ g = W.heap.size + 1) :
    LSt w p (cs.setIfInBounds k (.slice (some ⟨g, 0, none⟩) n c)) (upd R j ⟨(R j).e, (R j).size, some ⟨g, 0, none⟩, n + 1, c, xs⟩) b (W1.setCell ⟨b, k, none⟩ (.slice (some ⟨g, 0, none⟩) n c)) :=
  (h.app j rfl ho (hv ▸ hg) (hv ▸ hat)).head k _
end
theorem flat_set {α : Type} {enc : α → List Value} {size : Nat} (henc : ∀ x, (enc x).length = size) : ∀ (l : List α) (k j : Nat) (x x' : α) (u : Value), l[k]? = some x → j < size → enc x' = (enc x).set j u → (l.flatMap enc).set (k * size + j) u = (l.set k x').flatMap enc
  | [], k, j, x, x', u, hk, _, _ => by simp at hk
  | y :: r, 0, j, x, x', u, hk, hj, he => by
    have : y = x := by simpa using hk
    subst this
    simp only [List.flatMap_cons, List.set_cons_zero, Nat.zero_mul, Nat.zero_add]
    rw [List.set_append_left _ _ (by rw [henc]; exact hj), he]
  | y :: r, k + 1, j, x, x', u, hk, hj, he => by
    have h := flat_set henc r k j x x' u (by simpa using hk) hj he
    simp only [List.flatMap_cons, List.set_cons_succ]
    rw [List.set_append_right _ _ (by rw [henc, Nat.succ_mul]; omega), henc, show (k + 1) * size + j - size = k * size + j from by rw [Nat.succ_mul]; omega, h]
/-- the four lists' heads marked, of the threads the first k codes and the first m lists of places -/
def EL (k m : Nat) : Ix → Bool
  | .threads => false
  | .code i => decide (i < k)
  | .pl i => decide (i < m)
  | _ => true
theorem EL_zero : setE (setE (setE (setE noE .vars true) .vols true) .locks true) .bars true = EL 0 0 := by
  funext x
  cases x <;> simp [setE, EL, noE]
theorem EL_code (k : Nat) : setE (EL k k) (.code k) true = EL (k + 1) k := by
  funext x
  cases x with
  | code i =>
    simp only [setE, EL, Ix.code.injEq]
    by_cases h : i = k
    · simp [h]
    · simp [h]; omega
  | _ => simp [setE, EL]
theorem EL_pl (k : Nat) : setE (EL (k + 1) k) (.pl k) true = EL (k + 1) (k + 1) := by
  funext x
  cases x with
  | pl i =>
    simp only [setE, EL, Ix.pl.injEq]
    by_cases h : i = k
    · simp [h]
    · simp [h]; omega
  | _ => simp [setE, EL]
theorem EL_all (q : Prg) : q.rows (setE (EL q.threads.length q.threads.length) .threads true) = q.rows fun _ => true := by
  funext x
  cases x with
  | code i =>
    simp only [Prg.rows]
    rcases h : q.threads[i]? with _ | t
    · rfl
    · have := (List.getElem?_eq_some_iff.1 h).1
      simp [setE, EL, this]
  | pl i =>
    simp only [Prg.rows]
    rcases h : q.threads[i]? with _ | t
    · rfl
    · have := (List.getElem?_eq_some_iff.1 h).1
      simp [setE, EL, this]
  | _ => rfl
theorem LSt.code_ {w W W1 : World} {p q : Prg} {cs : Array Value} {E : Ix → Bool} {b k gT : Nat} {t : Thr} (h : LSt w p cs (q.rows E) b W) (hE : E .threads = false) (ht : q.threads[k]? = some t) (hA : q.At = some ⟨gT, 0, none⟩) {c g : Nat}
    (ho : W1.ownsRow (w.heap.size + 1 + 1) 45 5 (.slice (some ⟨g, 0, none⟩) (t.code.length + 1) c) (t.code.length + 1) (t.code.flatMap encI ++ encI mkI))
    (hg : W.grownBy W1 (Value.slice t.Ac t.code.length t.cc).ownBlock) (hat : (Value.slice t.Ac t.code.length t.cc).ownBlock = some g ∨ g = W.heap.size + 1) :
    LSt w p cs (Prg.rows {q with threads := q.threads.set k {t with Ac := some ⟨g, 0, none⟩, cc := c}} (setE E (.code k) true)) b (W1.setCell ⟨gT, k * 3 + 1, none⟩ (.slice (some ⟨g, 0, none⟩) t.code.length c)) := by
  have hr : q.rows E (.code k) = rowOf 45 5 encI t.Ac t.cc t.code (xtra (E (.code k)) mkI) := by simp only [Prg.rows, ht]
  rw [ownBlock_slice] at hg hat
  have h1 := h.app (W1 := W1) (.code k) (A := some ⟨g, 0, none⟩) (n := t.code.length + 1) (c := c) (xs := t.code.flatMap encI ++ encI mkI) rfl (by rw [hr]; exact ho) (by rw [hr]; exact hg) (by rw [hr]; exact hat)
  rw [hr] at h1
  have h2 := h1.cell_ .threads (g := gT) (by rw [upd_other _ _ (by simp)]; exact hA) (k * 3 + 1) (.slice (some ⟨g, 0, none⟩) t.code.length c)
  have e := rows_code q E true k t ht (some ⟨g, 0, none⟩) c t.code
  rw [rowOf_mark] at e
  have hthr : ∀ r, upd (q.rows E) (.code k) r .threads = rowOf 42 3 Thr.cells q.At q.ct q.threads [] := by
    intro r
    rw [upd_other _ _ (by simp)]
    simp [Prg.rows, hE, xtra]
  rw [hthr, rowOf_nil] at h2
  rw [hE, show xtra false mkT = [] from rfl, rowOf_nil, List.length_set] at e
  simp only at h2
  rw [flat_set (enc := Thr.cells) (size := 3) (fun _ => rfl) q.threads k 1 t {t with Ac := some ⟨g, 0, none⟩, cc := c} _ ht (by omega) rfl] at h2
  have e' := e ▸ h2
  exact e'
theorem LSt.pl_ {w W W1 : World} {p q : Prg} {cs : Array Value} {E : Ix → Bool} {b k gT : Nat} {t : Thr} (h : LSt w p cs (q.rows E) b W) (hE : E .threads = false) (ht : q.threads[k]? = some t) (hA : q.At = some ⟨gT, 0, none⟩) {c g : Nat}
    (ho : W1.ownsRow (w.heap.size + 1 + 1) 68 2 (.slice (some ⟨g, 0, none⟩) (t.places.length + 1) c) (t.places.length + 1) (t.places.flatMap encP ++ encP mkP))
    (hg : W.grownBy W1 (Value.slice t.Ap t.places.length t.cp).ownBlock) (hat : (Value.slice t.Ap t.places.length t.cp).ownBlock = some g ∨ g = W.heap.size + 1) :
    LSt w p cs (Prg.rows {q with threads := q.threads.set k {t with Ap := some ⟨g, 0, none⟩, cp := c}} (setE E (.pl k) true)) b (W1.setCell ⟨gT, k * 3 + 2, none⟩ (.slice (some ⟨g, 0, none⟩) t.places.length c)) := by
  have hr : q.rows E (.pl k) = rowOf 68 2 encP t.Ap t.cp t.places (xtra (E (.pl k)) mkP) := by simp only [Prg.rows, ht]
  rw [ownBlock_slice] at hg hat
  have h1 := h.app (W1 := W1) (.pl k) (A := some ⟨g, 0, none⟩) (n := t.places.length + 1) (c := c) (xs := t.places.flatMap encP ++ encP mkP) rfl (by rw [hr]; exact ho) (by rw [hr]; exact hg) (by rw [hr]; exact hat)
  rw [hr] at h1
  have h2 := h1.cell_ .threads (g := gT) (by rw [upd_other _ _ (by simp)]; exact hA) (k * 3 + 2) (.slice (some ⟨g, 0, none⟩) t.places.length c)
  have e := rows_pl q E true k t ht (some ⟨g, 0, none⟩) c t.places
  rw [rowOf_mark] at e
  have hthr : ∀ r, upd (q.rows E) (.pl k) r .threads = rowOf 42 3 Thr.cells q.At q.ct q.threads [] := by
    intro r
    rw [upd_other _ _ (by simp)]
    simp [Prg.rows, hE, xtra]
  rw [hthr, rowOf_nil] at h2
  rw [hE, show xtra false mkT = [] from rfl, rowOf_nil, List.length_set] at e
  simp only at h2
  rw [flat_set (enc := Thr.cells) (size := 3) (fun _ => rfl) q.threads k 2 t {t with Ap := some ⟨g, 0, none⟩, cp := c} _ ht (by omega) rfl] at h2
  have e' := e ▸ h2
  exact e'
theorem LSt.thr_cell {w W : World} {p q : Prg} {cs : Array Value} {E : Ix → Bool} {b k gT : Nat} {t : Thr} (h : LSt w p cs (q.rows E) b W) (hE : E .threads = false) (ht : q.threads[k]? = some t) (hA : q.At = some ⟨gT, 0, none⟩) (j : Nat) {u : Value} (hu : t.cells[j]? = some u) :
    W.cell? ⟨gT, k * 3 + j, none⟩ = some u := by
  refine h.rows.cell .threads hA (i := k * 3 + j) ?_
  have e : q.rows E .threads = ⟨42, 3, q.At, q.threads.length, q.ct, q.threads.flatMap Thr.cells⟩ := by
    have : q.rows E .threads = rowOf 42 3 Thr.cells q.At q.ct q.threads [] := by simp [Prg.rows, hE, xtra]
    rw [this, rowOf_nil]
  rw [e]
  exact flat_get (enc := Thr.cells) (size := 3) (fun _ => rfl) q.threads k j t u ht hu
theorem bare_set {m : List Thr} {k : Nat} {t t' : Thr} (ht : m[k]? = some t) (he : t'.bare = t.bare) : (m.set k t').map Thr.bare = m.map Thr.bare := by
  obtain ⟨hk, e⟩ := List.getElem?_eq_some_iff.1 ht
  rw [List.map_set, he, ← e, ← List.getElem_map Thr.bare (h := by simpa using hk), List.set_getElem_self]
theorem LSt.threads_ {w W W1 : World} {p q : Prg} {b n : Nat} (h : LSt w p q.arr (q.rows (EL n n)) b W) (hn : q.threads.length = n) {c g : Nat}
    (ho : W1.ownsRow (w.heap.size + 1 + 1) 42 3 (.slice (some ⟨g, 0, none⟩) (n + 1) c) (n + 1) (q.threads.flatMap Thr.cells ++ mkT.cells))
    (hg : W.grownBy W1 (Value.slice q.At n q.ct).ownBlock) (hat : (Value.slice q.At n q.ct).ownBlock = some g ∨ g = W.heap.size + 1) :
    LSt w p (Prg.arr {q with At := some ⟨g, 0, none⟩, ct := c}) (Prg.rows {q with At := some ⟨g, 0, none⟩, ct := c} fun _ => true) b (W1.setCell ⟨b, 4, none⟩ (.slice (some ⟨g, 0, none⟩) n c)) := by
  subst hn
  have h1 := h.mark (W1 := W1) .threads 4 (v := .slice q.At q.threads.length q.ct) (ownBlock_slice _ _ _) (n := q.threads.length) (c := c) (g := g) (xs := q.threads.flatMap Thr.cells ++ mkT.cells) ho hg hat
  have e := rows_threads q (EL q.threads.length q.threads.length) true (some ⟨g, 0, none⟩) c
  rw [rowOf_mark] at e
  have h2 : LSt w p (q.arr.setIfInBounds 4 (.slice (some ⟨g, 0, none⟩) q.threads.length c)) (upd (q.rows (EL q.threads.length q.threads.length)) .threads ⟨42, 3, some ⟨g, 0, none⟩, q.threads.length + 1, c, q.threads.flatMap Thr.cells ++ mkT.cells⟩) b (W1.setCell ⟨b, 4, none⟩ (.slice (some ⟨g, 0, none⟩) q.threads.length c)) := h1
  rw [e] at h2
  have e3 := EL_all ({q with At := some ⟨g, 0, none⟩, ct := c} : Prg)
  have e4 : ({q with At := some ⟨g, 0, none⟩, ct := c} : Prg).arr = q.arr.setIfInBounds 4 (.slice (some ⟨g, 0, none⟩) q.threads.length c) := rfl
  rw [← e3, e4]
  exact h2
set_option maxHeartbeats 20000000 in
set_option maxRecDepth 100000 in
theorem lent_any (p : Prg) (w : World) (hf : p.Fits) (hwf : p.Room) (hin : p.In w w.heap.size) :
    Calls Tryd.prog 7 #[p.val] w fun e w' => ∃ q : Prg, e = .returned q.val ∧ Below w.heap.size w w' ∧ q.Same p ∧ AllRows w' w.heap.size (q.rows fun _ => true) := by
  obtain ⟨i1, hi1, hz1, hs1, hb1⟩ := info_parts info_nam
  obtain ⟨i2, hi2, hz2, hs2, hb2⟩ := info_parts info_strc
  obtain ⟨i3, hi3, hz3, hs3, hb3⟩ := info_parts info_bar
  obtain ⟨i4, hi4, hz4, hs4, hb4⟩ := info_parts info_thr
  obtain ⟨i5, hi5, hz5, hs5, hb5⟩ := info_parts info_ins
  obtain ⟨i6, hi6, hz6, hs6, hb6⟩ := info_parts info_pla
  have Hi1 := Lib.hid hi1; have Hz1 := Lib.hid hz1; have Hs1 := Lib.hid hs1; have Hb1 := Lib.hid hb1; clear hi1 hz1 hs1 hb1
  have Hi2 := Lib.hid hi2; have Hz2 := Lib.hid hz2; have Hs2 := Lib.hid hs2; have Hb2 := Lib.hid hb2; clear hi2 hz2 hs2 hb2
  have Hi3 := Lib.hid hi3; have Hz3 := Lib.hid hz3; have Hs3 := Lib.hid hs3; have Hb3 := Lib.hid hb3; clear hi3 hz3 hs3 hb3
  have Hi4 := Lib.hid hi4; have Hz4 := Lib.hid hz4; have Hs4 := Lib.hid hs4; have Hb4 := Lib.hid hb4; clear hi4 hz4 hs4 hb4
  have Hi5 := Lib.hid hi5; have Hz5 := Lib.hid hz5; have Hs5 := Lib.hid hs5; have Hb5 := Lib.hid hb5; clear hi5 hz5 hs5 hb5
  have Hi6 := Lib.hid hi6; have Hz6 := Lib.hid hz6; have Hs6 := Lib.hid hs6; have Hb6 := Lib.hid hb6; clear hi6 hz6 hs6 hb6
  have HF := Lib.hid hf; clear hf
  have HI := Lib.hid hin; clear hin
  have HW := Lib.hid hwf; clear hwf
  have l1 : p.vars.length * 24 ≤ 140737488351232 := HF.out.vars
  have l2 : p.vols.length * 24 ≤ 140737488351232 := HF.out.vols
  have l3 : p.locks.length * 16 ≤ 140737488351232 := HF.out.locks
  have l4 : p.bars.length * 24 ≤ 140737488351232 := HF.out.bars
  have l5 : p.threads.length * 64 ≤ 140737488351232 := HF.out.threads
  unfold Prg.val
  go_enter Tryd.func7, Tryd.ntmps7
  go_upto_region 1 with (fail)
  generalize hW : World.alloc _ _ = W0
  have hb0 : Below w.heap.size w W0 := by subst hW; go_grown
  have hp0 : Blk W0 w.heap.size 27 p.arr := by
    subst hW
    exact (Blk.new w _ _).alloc _
  have hr0 : Blk W0 (w.heap.size + 1) 27 #[ns, ns, ns, ns, ns] := by
    subst hW
    exact (Blk.new _ _ _).moved (by simp)
  have hs0 : W0.heap.size = w.heap.size + 1 + 1 := by subst hW; simp
  clear hW
  have a0 : W0.cell? ⟨w.heap.size, 0, none⟩ = some (.slice p.Av p.vars.length p.cv) := hp0.cell 0
  have a1 : W0.cell? ⟨w.heap.size, 1, none⟩ = some (.slice p.Ao p.vols.length p.co) := hp0.cell 1
  have a2 : W0.cell? ⟨w.heap.size, 2, none⟩ = some (.slice p.Al p.locks.length p.cl) := hp0.cell 2
  have a3 : W0.cell? ⟨w.heap.size, 3, none⟩ = some (.slice p.Ab p.bars.length p.cb) := hp0.cell 3
  have a4 : W0.cell? ⟨w.heap.size, 4, none⟩ = some (.slice p.At p.threads.length p.ct) := hp0.cell 4
  have HP0 := Lib.hid hp0; clear hp0
  have HR0 := Lib.hid hr0; clear hr0
  go_wp2_with fail
  refine (copied_any p W0 HF.out ((HI.out.below hb0).more (by omega))).mono ?_
  rintro e w1 ⟨⟨A1, c1, k1, A2, c2, k2, A3, c3, k3, A4, c4, k4, A5, c5, l⟩, rfl, hb1', hsame, hrows⟩
  obtain rfl : k1 = p.vars := hsame.vars
  obtain rfl : k2 = p.vols := hsame.vols
  obtain rfl : k3 = p.locks := hsame.locks
  obtain rfl : k4 = p.bars := hsame.bars
  have HLEN : Hid (l.length = p.threads.length) := hsame.len
  have HBARE : Hid (l.map Thr.bare = p.threads.map Thr.bare) := hsame.threads
  clear hsame
  rw [hs0] at hrows
  have hw1 := hb1'.size
  have HROWS := Lib.hid hrows; clear hrows
  have HP1 := Lib.hid (HP0.out.below hb1' HP0.out.lt); clear HP0
  have HR1 := Lib.hid (HR0.out.below hb1' HR0.out.lt); clear HR0
  have hbw : Below w.heap.size w w1 := hb0.trans (hb1'.mono (by omega))
  clear a0 a1 a2 a3 a4 hb1'
  unfold Prg.val
  go_upto_region 2 with (fail)
  generalize hW : World.alloc _ _ = W1
  have HS0 : Hid (LSt w p (Prg.arr ⟨A1, c1, p.vars, A2, c2, p.vols, A3, c3, p.locks, A4, c4, p.bars, A5, c5, l⟩) (Prg.rows ⟨A1, c1, p.vars, A2, c2, p.vols, A3, c3, p.locks, A4, c4, p.bars, A5, c5, l⟩ noE) w1.heap.size W1) := by
    subst hW
    have hal : Below w1.heap.size w1 (w1.alloc (.cells (Prg.arr ⟨A1, c1, p.vars, A2, c2, p.vols, A3, c3, p.locks, A4, c4, p.bars, A5, c5, l⟩) 27)) := (Below.refl _ _).alloc (Nat.le_refl _) _
    exact ⟨hbw.trans (hal.mono (by omega)), HP1.out.below hal HP1.out.lt, HR1.out.below hal HR1.out.lt, Blk.new _ _ _, HROWS.out.below hal, fun x a ha => by have := ((HROWS.out.own x).lt ha).2; omega, by omega⟩
  have hbx : w.heap.size + 1 + 1 ≤ w1.heap.size := by omega
  clear hW HP1 HR1 HROWS hbw hs0 hb0
  obtain ⟨b, hb⟩ : ∃ b, b = w1.heap.size := ⟨_, rfl⟩
  rw [← hb] at HS0 hbx ⊢
  clear hb
  go_cut [] (fun wx => ∃ g1 d1, LSt w p (Prg.arr ⟨(some ⟨g1, 0, none⟩), d1, p.vars, A2, c2, p.vols, A3, c3, p.locks, A4, c4, p.bars, A5, c5, l⟩) (Prg.rows ⟨(some ⟨g1, 0, none⟩), d1, p.vars, A2, c2, p.vols, A3, c3, p.locks, A4, c4, p.bars, A5, c5, l⟩ (setE noE .vars true)) b wx)
  case first =>
    have a1 : W1.cell? ⟨w.heap.size, 0, none⟩ = some (.slice p.Av p.vars.length p.cv) := HS0.out.hp.cell 0
    have a2 : W1.cell? ⟨b, 0, none⟩ = some (.slice A1 p.vars.length c1) := HS0.out.hq.cell 0
    have a3 : w.heap.size < W1.heap.size := HS0.out.hp.lt
    have a4 : b < W1.heap.size := HS0.out.hq.lt
    have f2 := HS0.out.hq.frozen 0
    have HOWN : Hid (W1.ownsRow (w.heap.size + 1 + 1) 47 2 (.slice A1 p.vars.length c1) p.vars.length (p.vars.flatMap encN)) := by
      have := HS0.out.rows.own .vars
      have e : Prg.rows ⟨A1, c1, p.vars, A2, c2, p.vols, A3, c3, p.locks, A4, c4, p.bars, A5, c5, l⟩ noE .vars = ⟨47, 2, A1, p.vars.length, c1, p.vars.flatMap encN⟩ := rowOf_nil _ _ _ _ _ _
      rw [e] at this
      exact this
    have hneb : some b ≠ (Value.slice A1 p.vars.length c1).ownBlock := by rw [ownBlock_slice]; exact fun e => HS0.out.row_ne .vars e.symm
    have hnew : some w.heap.size ≠ (Value.slice A1 p.vars.length c1).ownBlock := own_blk_lt HOWN.out (by omega)
    go_region_law ((refine step_append_lies _ (by rfl) (.tmp 9) (.tmp 11) 22 (by rfl) (w.heap.size + 1 + 1) 47 i1 _ 2 24 Tryd.underlying22 Hi1.out Hz1.out Hs1.out Hb1.out rfl (by omega) (.slice A1 p.vars.length c1) p.vars.length (p.vars.flatMap encN) (by rfl) ((HOWN.out.alloc _).drew) ⟨W1.heap.size, 0, none⟩ 1 1 (encN mkN) (by rfl) (by rfl) (World.news_of_block (cs := #[.string ⟨#[]⟩, .int .i64 77]) (t := 47) (fr := (0, 0)) (heap_alloc_new W1 _)) (oneN _) (by omega) (by simp only [maxLen]; omega) (by omega) (by have := HS0.out.hb; simp; omega) (W1.heap.size + 1) (by simp) ?_; intro g1 d1 w1 hown1 hgrow hat hlt; have hcap := RowD.Owns.cap (r := ⟨47, 2, some ⟨g1, 0, none⟩, p.vars.length + 1, d1, _⟩) hown1; have hcap2 : (p.vars.length : Int) ≤ (d1 : Int) := (by simp only at hcap; omega); have hgp := grown_pre hgrow; have e3 : w1.cell? ⟨b, 0, none⟩ = some (.slice A1 p.vars.length c1) := (hgp.cell_far _ a4 hneb).trans a2; have e4 : w1.cell? ⟨w.heap.size, 0, none⟩ = some (.slice p.Av p.vars.length p.cv) := (hgp.cell_far _ a3 hnew).trans a1; have f3 : w1.frozen? ⟨b, 0, none⟩ = false := (hgp.frozen_far _ a4 hneb).trans f2; have hl3 : b < w1.heap.size := Nat.lt_of_lt_of_le a4 hgp.size; have HO := Lib.hid hown1; clear hown1))
    all_goals
      go_wp2_with fail
      go_meet
      have h1 := HS0.out.mark .vars 0 (v := .slice A1 p.vars.length c1) (ownBlock_slice _ _ _) HO.out hgp hat
      have e := rows_vars ⟨A1, c1, p.vars, A2, c2, p.vols, A3, c3, p.locks, A4, c4, p.bars, A5, c5, l⟩ noE true (some ⟨g1, 0, none⟩) d1 p.vars
      rw [rowOf_mark] at e
      have h2 : LSt w p (Prg.arr ⟨(some ⟨g1, 0, none⟩), d1, p.vars, A2, c2, p.vols, A3, c3, p.locks, A4, c4, p.bars, A5, c5, l⟩) (upd (Prg.rows ⟨A1, c1, p.vars, A2, c2, p.vols, A3, c3, p.locks, A4, c4, p.bars, A5, c5, l⟩ noE) .vars ⟨47, 2, some ⟨g1, 0, none⟩, p.vars.length + 1, d1, p.vars.flatMap encN ++ encN mkN⟩) b _ := h1
      rw [e] at h2
      exact ⟨_, _, h2⟩
  case rest =>
  obtain ⟨g1, d1, hS⟩ := hcut
  obtain ⟨W2, rfl⟩ : ∃ x : World, x = wc := ⟨_, rfl⟩
  have HS1 := Lib.hid hS
  clear hS HS0
  go_upto_region 3 with (fail)
  go_cut [] (fun wx => ∃ g2 d2, LSt w p (Prg.arr ⟨(some ⟨g1, 0, none⟩), d1, p.vars, (some ⟨g2, 0, none⟩), d2, p.vols, A3, c3, p.locks, A4, c4, p.bars, A5, c5, l⟩) (Prg.rows ⟨(some ⟨g1, 0, none⟩), d1, p.vars, (some ⟨g2, 0, none⟩), d2, p.vols, A3, c3, p.locks, A4, c4, p.bars, A5, c5, l⟩ (setE (setE noE .vars true) .vols true)) b wx)
  case first =>
    have a1 : W2.cell? ⟨w.heap.size, 1, none⟩ = some (.slice p.Ao p.vols.length p.co) := HS1.out.hp.cell 1
    have a2 : W2.cell? ⟨b, 1, none⟩ = some (.slice A2 p.vols.length c2) := HS1.out.hq.cell 1
    have a3 : w.heap.size < W2.heap.size := HS1.out.hp.lt
    have a4 : b < W2.heap.size := HS1.out.hq.lt
    have f2 := HS1.out.hq.frozen 1
    have HOWN : Hid (W2.ownsRow (w.heap.size + 1 + 1) 47 2 (.slice A2 p.vols.length c2) p.vols.length (p.vols.flatMap encN)) := by
      have := HS1.out.rows.own .vols
      have e : Prg.rows ⟨(some ⟨g1, 0, none⟩), d1, p.vars, A2, c2, p.vols, A3, c3, p.locks, A4, c4, p.bars, A5, c5, l⟩ (setE noE .vars true) .vols = ⟨47, 2, A2, p.vols.length, c2, p.vols.flatMap encN⟩ := rowOf_nil _ _ _ _ _ _
      rw [e] at this
      exact this
    have hneb : some b ≠ (Value.slice A2 p.vols.length c2).ownBlock := by rw [ownBlock_slice]; exact fun e => HS1.out.row_ne .vols e.symm
    have hnew : some w.heap.size ≠ (Value.slice A2 p.vols.length c2).ownBlock := own_blk_lt HOWN.out (by omega)
    go_region_law ((refine step_append_lies _ (by rfl) (.tmp 19) (.tmp 21) 22 (by rfl) (w.heap.size + 1 + 1) 47 i1 _ 2 24 Tryd.underlying22 Hi1.out Hz1.out Hs1.out Hb1.out rfl (by omega) (.slice A2 p.vols.length c2) p.vols.length (p.vols.flatMap encN) (by rfl) ((HOWN.out.alloc _).drew) ⟨W2.heap.size, 0, none⟩ 1 1 (encN mkN) (by rfl) (by rfl) (World.news_of_block (cs := #[.string ⟨#[]⟩, .int .i64 77]) (t := 47) (fr := (0, 0)) (heap_alloc_new W2 _)) (oneN _) (by omega) (by simp only [maxLen]; omega) (by omega) (by have := HS1.out.hb; simp; omega) (W2.heap.size + 1) (by simp) ?_; intro g2 d2 w1 hown1 hgrow hat hlt; have hcap := RowD.Owns.cap (r := ⟨47, 2, some ⟨g2, 0, none⟩, p.vols.length + 1, d2, _⟩) hown1; have hcap2 : (p.vols.length : Int) ≤ (d2 : Int) := (by simp only at hcap; omega); have hgp := grown_pre hgrow; have e3 : w1.cell? ⟨b, 1, none⟩ = some (.slice A2 p.vols.length c2) := (hgp.cell_far _ a4 hneb).trans a2; have e4 : w1.cell? ⟨w.heap.size, 1, none⟩ = some (.slice p.Ao p.vols.length p.co) := (hgp.cell_far _ a3 hnew).trans a1; have f3 : w1.frozen? ⟨b, 1, none⟩ = false := (hgp.frozen_far _ a4 hneb).trans f2; have hl3 : b < w1.heap.size := Nat.lt_of_lt_of_le a4 hgp.size; have HO := Lib.hid hown1; clear hown1))
    all_goals
      go_wp2_with fail
      go_meet
      have h1 := HS1.out.mark .vols 1 (v := .slice A2 p.vols.length c2) (ownBlock_slice _ _ _) HO.out hgp hat
      have e := rows_vols ⟨(some ⟨g1, 0, none⟩), d1, p.vars, A2, c2, p.vols, A3, c3, p.locks, A4, c4, p.bars, A5, c5, l⟩ (setE noE .vars true) true (some ⟨g2, 0, none⟩) d2 p.vols
      rw [rowOf_mark] at e
      have h2 : LSt w p (Prg.arr ⟨(some ⟨g1, 0, none⟩), d1, p.vars, (some ⟨g2, 0, none⟩), d2, p.vols, A3, c3, p.locks, A4, c4, p.bars, A5, c5, l⟩) (upd (Prg.rows ⟨(some ⟨g1, 0, none⟩), d1, p.vars, A2, c2, p.vols, A3, c3, p.locks, A4, c4, p.bars, A5, c5, l⟩ (setE noE .vars true)) .vols ⟨47, 2, some ⟨g2, 0, none⟩, p.vols.length + 1, d2, p.vols.flatMap encN ++ encN mkN⟩) b _ := h1
      rw [e] at h2
      exact ⟨_, _, h2⟩
  case rest =>
  obtain ⟨g2, d2, hS⟩ := hcut
  obtain ⟨W3, rfl⟩ : ∃ x : World, x = wc := ⟨_, rfl⟩
  have HS2 := Lib.hid hS
  clear hS HS1
  go_upto_region 4 with (fail)
  go_cut [] (fun wx => ∃ g3 d3, LSt w p (Prg.arr ⟨(some ⟨g1, 0, none⟩), d1, p.vars, (some ⟨g2, 0, none⟩), d2, p.vols, (some ⟨g3, 0, none⟩), d3, p.locks, A4, c4, p.bars, A5, c5, l⟩) (Prg.rows ⟨(some ⟨g1, 0, none⟩), d1, p.vars, (some ⟨g2, 0, none⟩), d2, p.vols, (some ⟨g3, 0, none⟩), d3, p.locks, A4, c4, p.bars, A5, c5, l⟩ (setE (setE (setE noE .vars true) .vols true) .locks true)) b wx)
  case first =>
    have a1 : W3.cell? ⟨w.heap.size, 2, none⟩ = some (.slice p.Al p.locks.length p.cl) := HS2.out.hp.cell 2
    have a2 : W3.cell? ⟨b, 2, none⟩ = some (.slice A3 p.locks.length c3) := HS2.out.hq.cell 2
    have a3 : w.heap.size < W3.heap.size := HS2.out.hp.lt
    have a4 : b < W3.heap.size := HS2.out.hq.lt
    have f2 := HS2.out.hq.frozen 2
    have HOWN : Hid (W3.ownsRow (w.heap.size + 1 + 1) 9 1 (.slice A3 p.locks.length c3) p.locks.length (p.locks.flatMap encS)) := by
      have := HS2.out.rows.own .locks
      have e : Prg.rows ⟨(some ⟨g1, 0, none⟩), d1, p.vars, (some ⟨g2, 0, none⟩), d2, p.vols, A3, c3, p.locks, A4, c4, p.bars, A5, c5, l⟩ (setE (setE noE .vars true) .vols true) .locks = ⟨9, 1, A3, p.locks.length, c3, p.locks.flatMap encS⟩ := rowOf_nil _ _ _ _ _ _
      rw [e] at this
      exact this
    have hneb : some b ≠ (Value.slice A3 p.locks.length c3).ownBlock := by rw [ownBlock_slice]; exact fun e => HS2.out.row_ne .locks e.symm
    have hnew : some w.heap.size ≠ (Value.slice A3 p.locks.length c3).ownBlock := own_blk_lt HOWN.out (by omega)
    go_region_law ((refine step_append_lies _ (by rfl) (.tmp 29) (.tmp 30) 23 (by rfl) (w.heap.size + 1 + 1) 9 i2 _ 1 16 Tryd.underlying23 Hi2.out Hz2.out Hs2.out Hb2.out rfl (by omega) (.slice A3 p.locks.length c3) p.locks.length (p.locks.flatMap encS) (by rfl) ((HOWN.out.alloc _).drew) ⟨W3.heap.size, 0, none⟩ 1 1 (encS mkS) (by rfl) (by rfl) (World.news_of_block (cs := #[.string ⟨#[55, 55]⟩]) (t := 9) (fr := (0, 0)) (heap_alloc_new W3 _)) (oneSx _) (by omega) (by simp only [maxLen]; omega) (by omega) (by have := HS2.out.hb; simp; omega) (W3.heap.size + 1) (by simp) ?_; intro g3 d3 w1 hown1 hgrow hat hlt; have hcap := RowD.Owns.cap (r := ⟨9, 1, some ⟨g3, 0, none⟩, p.locks.length + 1, d3, _⟩) hown1; have hcap2 : (p.locks.length : Int) ≤ (d3 : Int) := (by simp only at hcap; omega); have hgp := grown_pre hgrow; have e3 : w1.cell? ⟨b, 2, none⟩ = some (.slice A3 p.locks.length c3) := (hgp.cell_far _ a4 hneb).trans a2; have e4 : w1.cell? ⟨w.heap.size, 2, none⟩ = some (.slice p.Al p.locks.length p.cl) := (hgp.cell_far _ a3 hnew).trans a1; have f3 : w1.frozen? ⟨b, 2, none⟩ = false := (hgp.frozen_far _ a4 hneb).trans f2; have hl3 : b < w1.heap.size := Nat.lt_of_lt_of_le a4 hgp.size; have HO := Lib.hid hown1; clear hown1))
    all_goals
      go_wp2_with fail
      go_meet
      have h1 := HS2.out.mark .locks 2 (v := .slice A3 p.locks.length c3) (ownBlock_slice _ _ _) HO.out hgp hat
      have e := rows_locks ⟨(some ⟨g1, 0, none⟩), d1, p.vars, (some ⟨g2, 0, none⟩), d2, p.vols, A3, c3, p.locks, A4, c4, p.bars, A5, c5, l⟩ (setE (setE noE .vars true) .vols true) true (some ⟨g3, 0, none⟩) d3 p.locks
      rw [rowOf_mark] at e
      have h2 : LSt w p (Prg.arr ⟨(some ⟨g1, 0, none⟩), d1, p.vars, (some ⟨g2, 0, none⟩), d2, p.vols, (some ⟨g3, 0, none⟩), d3, p.locks, A4, c4, p.bars, A5, c5, l⟩) (upd (Prg.rows ⟨(some ⟨g1, 0, none⟩), d1, p.vars, (some ⟨g2, 0, none⟩), d2, p.vols, A3, c3, p.locks, A4, c4, p.bars, A5, c5, l⟩ (setE (setE noE .vars true) .vols true)) .locks ⟨9, 1, some ⟨g3, 0, none⟩, p.locks.length + 1, d3, p.locks.flatMap encS ++ encS mkS⟩) b _ := h1
      rw [e] at h2
      exact ⟨_, _, h2⟩
  case rest =>
  obtain ⟨g3, d3, hS⟩ := hcut
  obtain ⟨W4, rfl⟩ : ∃ x : World, x = wc := ⟨_, rfl⟩
  have HS3 := Lib.hid hS
  clear hS HS2
  go_upto_region 5 with (fail)
  go_cut [] (fun wx => ∃ g4 d4, LSt w p (Prg.arr ⟨(some ⟨g1, 0, none⟩), d1, p.vars, (some ⟨g2, 0, none⟩), d2, p.vols, (some ⟨g3, 0, none⟩), d3, p.locks, (some ⟨g4, 0, none⟩), d4, p.bars, A5, c5, l⟩) (Prg.rows ⟨(some ⟨g1, 0, none⟩), d1, p.vars, (some ⟨g2, 0, none⟩), d2, p.vols, (some ⟨g3, 0, none⟩), d3, p.locks, (some ⟨g4, 0, none⟩), d4, p.bars, A5, c5, l⟩ (setE (setE (setE (setE noE .vars true) .vols true) .locks true) .bars true)) b wx)
  case first =>
    have a1 : W4.cell? ⟨w.heap.size, 3, none⟩ = some (.slice p.Ab p.bars.length p.cb) := HS3.out.hp.cell 3
    have a2 : W4.cell? ⟨b, 3, none⟩ = some (.slice A4 p.bars.length c4) := HS3.out.hq.cell 3
    have a3 : w.heap.size < W4.heap.size := HS3.out.hp.lt
    have a4 : b < W4.heap.size := HS3.out.hq.lt
    have f2 := HS3.out.hq.frozen 3
    have HOWN : Hid (W4.ownsRow (w.heap.size + 1 + 1) 65 2 (.slice A4 p.bars.length c4) p.bars.length (p.bars.flatMap encN)) := by
      have := HS3.out.rows.own .bars
      have e : Prg.rows ⟨(some ⟨g1, 0, none⟩), d1, p.vars, (some ⟨g2, 0, none⟩), d2, p.vols, (some ⟨g3, 0, none⟩), d3, p.locks, A4, c4, p.bars, A5, c5, l⟩ (setE (setE (setE noE .vars true) .vols true) .locks true) .bars = ⟨65, 2, A4, p.bars.length, c4, p.bars.flatMap encN⟩ := rowOf_nil _ _ _ _ _ _
      rw [e] at this
      exact this
    have hneb : some b ≠ (Value.slice A4 p.bars.length c4).ownBlock := by rw [ownBlock_slice]; exact fun e => HS3.out.row_ne .bars e.symm
    have hnew : some w.heap.size ≠ (Value.slice A4 p.bars.length c4).ownBlock := own_blk_lt HOWN.out (by omega)
    go_region_law ((refine step_append_lies _ (by rfl) (.tmp 38) (.tmp 40) 24 (by rfl) (w.heap.size + 1 + 1) 65 i3 _ 2 24 Tryd.underlying24 Hi3.out Hz3.out Hs3.out Hb3.out rfl (by omega) (.slice A4 p.bars.length c4) p.bars.length (p.bars.flatMap encN) (by rfl) ((HOWN.out.alloc _).drew) ⟨W4.heap.size, 0, none⟩ 1 1 (encN mkN) (by rfl) (by rfl) (World.news_of_block (cs := #[.string ⟨#[]⟩, .int .i64 77]) (t := 65) (fr := (0, 0)) (heap_alloc_new W4 _)) (oneN _) (by omega) (by simp only [maxLen]; omega) (by omega) (by have := HS3.out.hb; simp; omega) (W4.heap.size + 1) (by simp) ?_; intro g4 d4 w1 hown1 hgrow hat hlt; have hcap := RowD.Owns.cap (r := ⟨65, 2, some ⟨g4, 0, none⟩, p.bars.length + 1, d4, _⟩) hown1; have hcap2 : (p.bars.length : Int) ≤ (d4 : Int) := (by simp only at hcap; omega); have hgp := grown_pre hgrow; have e3 : w1.cell? ⟨b, 3, none⟩ = some (.slice A4 p.bars.length c4) := (hgp.cell_far _ a4 hneb).trans a2; have e4 : w1.cell? ⟨w.heap.size, 3, none⟩ = some (.slice p.Ab p.bars.length p.cb) := (hgp.cell_far _ a3 hnew).trans a1; have f3 : w1.frozen? ⟨b, 3, none⟩ = false := (hgp.frozen_far _ a4 hneb).trans f2; have hl3 : b < w1.heap.size := Nat.lt_of_lt_of_le a4 hgp.size; have HO := Lib.hid hown1; clear hown1))
    all_goals
      go_wp2_with fail
      go_meet
      have h1 := HS3.out.mark .bars 3 (v := .slice A4 p.bars.length c4) (ownBlock_slice _ _ _) HO.out hgp hat
      have e := rows_bars ⟨(some ⟨g1, 0, none⟩), d1, p.vars, (some ⟨g2, 0, none⟩), d2, p.vols, (some ⟨g3, 0, none⟩), d3, p.locks, A4, c4, p.bars, A5, c5, l⟩ (setE (setE (setE noE .vars true) .vols true) .locks true) true (some ⟨g4, 0, none⟩) d4 p.bars
      rw [rowOf_mark] at e
      have h2 : LSt w p (Prg.arr ⟨(some ⟨g1, 0, none⟩), d1, p.vars, (some ⟨g2, 0, none⟩), d2, p.vols, (some ⟨g3, 0, none⟩), d3, p.locks, (some ⟨g4, 0, none⟩), d4, p.bars, A5, c5, l⟩) (upd (Prg.rows ⟨(some ⟨g1, 0, none⟩), d1, p.vars, (some ⟨g2, 0, none⟩), d2, p.vols, (some ⟨g3, 0, none⟩), d3, p.locks, A4, c4, p.bars, A5, c5, l⟩ (setE (setE (setE noE .vars true) .vols true) .locks true)) .bars ⟨65, 2, some ⟨g4, 0, none⟩, p.bars.length + 1, d4, p.bars.flatMap encN ++ encN mkN⟩) b _ := h1
      rw [e] at h2
      exact ⟨_, _, h2⟩
  case rest =>
  obtain ⟨g4, d4, hS⟩ := hcut
  obtain ⟨W5, rfl⟩ : ∃ x : World, x = wc := ⟨_, rfl⟩
  have HS4 := Lib.hid hS
  clear hS HS3
  go_wp2_with fail
  have hne0 : LSt w p (Prg.arr ⟨(some ⟨g1, 0, none⟩), d1, p.vars, (some ⟨g2, 0, none⟩), d2, p.vols, (some ⟨g3, 0, none⟩), d3, p.locks, (some ⟨g4, 0, none⟩), d4, p.bars, A5, c5, l⟩) (Prg.rows ⟨(some ⟨g1, 0, none⟩), d1, p.vars, (some ⟨g2, 0, none⟩), d2, p.vols, (some ⟨g3, 0, none⟩), d3, p.locks, (some ⟨g4, 0, none⟩), d4, p.bars, A5, c5, l⟩ (EL 0 0)) b W5 := by
    rw [← EL_zero]
    exact HS4.out
  have HS5 := Lib.hid hne0
  clear hne0 HS4
  go_loopw [4] (fun i wr => ∃ (k : Nat) (m : List Thr), k ≤ p.threads.length ∧ i = .int .i64 k ∧ m.length = p.threads.length ∧ m.map Thr.bare = p.threads.map Thr.bare ∧ LSt w p (Prg.arr ⟨(some ⟨g1, 0, none⟩), d1, p.vars, (some ⟨g2, 0, none⟩), d2, p.vols, (some ⟨g3, 0, none⟩), d3, p.locks, (some ⟨g4, 0, none⟩), d4, p.bars, A5, c5, m⟩) (Prg.rows ⟨(some ⟨g1, 0, none⟩), d1, p.vars, (some ⟨g2, 0, none⟩), d2, p.vols, (some ⟨g3, 0, none⟩), d3, p.locks, (some ⟨g4, 0, none⟩), d4, p.bars, A5, c5, m⟩ (EL k k)) b wr) (fun i _ => p.threads.length - (intOf i).toNat)
  case atStart => exact ⟨0, l, by omega, rfl, HLEN.out, HBARE.out, HS5.out⟩
  case round =>
    clear HS5
    obtain ⟨k, m, hk, rfl, hlm, hbare, hst⟩ := hrel
    have HST := Lib.hid hst; clear hst
    have HLM := Lib.hid hlm; clear hlm
    have HBM := Lib.hid hbare; clear hbare
    have a1 : wr.cell? ⟨b, 4, none⟩ = some (.slice A5 p.threads.length c5) := (HST.out.hq.cell 4).trans (by rw [← HLM.out]; rfl)
    have a2 : b < wr.heap.size := HST.out.hq.lt
    by_cases hlt : k < p.threads.length
    · obtain ⟨t, ht⟩ := get_some (l := m) (k := k) (by have := HLM.out; omega)
      obtain ⟨gT, hA0, _, hgT⟩ := (HST.out.rows.own .threads).form (by have := HLM.out; show 0 < m.length + _; omega)
      obtain rfl : A5 = some ⟨gT, 0, none⟩ := hA0
      have HTT := Lib.hid ht; clear ht
      go_upto_region 10 with (fail)
      obtain ⟨X1, rfl⟩ : ∃ x : World, x = wr := ⟨_, rfl⟩
      clear a1 a2
      go_cut [] (fun wx => ∃ g5 d5, LSt w p (Prg.arr ⟨(some ⟨g1, 0, none⟩), d1, p.vars, (some ⟨g2, 0, none⟩), d2, p.vols, (some ⟨g3, 0, none⟩), d3, p.locks, (some ⟨g4, 0, none⟩), d4, p.bars, some ⟨gT, 0, none⟩, c5, m⟩) (Prg.rows ⟨(some ⟨g1, 0, none⟩), d1, p.vars, (some ⟨g2, 0, none⟩), d2, p.vols, (some ⟨g3, 0, none⟩), d3, p.locks, (some ⟨g4, 0, none⟩), d4, p.bars, some ⟨gT, 0, none⟩, c5, (m.set k {t with Ac := some ⟨g5, 0, none⟩, cc := d5})⟩ (EL (k + 1) k)) b wx)
      case first =>
        have a3 : X1.cell? ⟨gT, k * 3 + 1, none⟩ = some (.slice t.Ac t.code.length t.cc) := HST.out.thr_cell (q := ⟨(some ⟨g1, 0, none⟩), d1, p.vars, (some ⟨g2, 0, none⟩), d2, p.vols, (some ⟨g3, 0, none⟩), d3, p.locks, (some ⟨g4, 0, none⟩), d4, p.bars, some ⟨gT, 0, none⟩, c5, m⟩) rfl HTT.out rfl 1 rfl
        have a4 : gT < X1.heap.size := ((HST.out.rows.own .threads).lt (a := ⟨gT, 0, none⟩) rfl).2
        have f2 : X1.frozen? ⟨gT, k * 3 + 1, none⟩ = false := HST.out.rows.frozen .threads rfl _
        have HOWN : Hid (X1.ownsRow (w.heap.size + 1 + 1) 45 5 (.slice t.Ac t.code.length t.cc) t.code.length (t.code.flatMap encI)) := by
          have h1 := HST.out.rows.code_ HTT.out
          have e : xtra ((EL k k) (.code k)) mkI = [] := by simp [EL, xtra]
          rw [e, rowOf_nil] at h1
          exact h1
        have hneT : some gT ≠ (Value.slice t.Ac t.code.length t.cc).ownBlock := by
          rw [ownBlock_slice]
          intro e
          obtain ⟨a, ha, hab⟩ := Option.map_eq_some_iff.1 e.symm
          refine HST.out.rows.far .threads (.code k) (by simp) ⟨gT, 0, none⟩ a rfl ?_ hab.symm
          simp only [Prg.rows, HTT.out]
          exact ha
        have lfit : t.code.length * 40 ≤ 140737488351232 := by
          have hb0 : (m.map Thr.bare) = p.threads.map Thr.bare := HBM.out
          obtain ⟨x, hx⟩ := get_some (l := p.threads) (k := k) hlt
          have h1 : (m.map Thr.bare)[k]? = some t.bare := by rw [List.getElem?_map, HTT.out]; rfl
          have h2 : (p.threads.map Thr.bare)[k]? = some x.bare := by rw [List.getElem?_map, hx]; rfl
          rw [hb0, h2] at h1
          have h3 : x.code = t.code := congrArg ((·.2.1)) (Option.some.inj h1)
          have := (HW.out x (get_mem hx)).1
          rw [h3] at this
          exact this
        go_region_law ((refine step_append_lies _ (by rfl) (.tmp 62) (.tmp 64) 39 (by rfl) (w.heap.size + 1 + 1) 45 i5 _ 5 40 Tryd.underlying39 Hi5.out Hz5.out Hs5.out Hb5.out rfl (by omega) (.slice t.Ac t.code.length t.cc) t.code.length (t.code.flatMap encI) (by rfl) ((HOWN.out.alloc _).drew) ⟨X1.heap.size, 0, none⟩ 1 1 (encI mkI) (by rfl) (by rfl) (World.news_of_block (cs := #[.int .i64 0, .int .i64 0, .int .i64 0, .int .i64 0, .int .i64 77]) (t := 45) (fr := (0, 0)) (heap_alloc_new X1 _)) (oneI _) (by omega) (by simp only [maxLen]; omega) (by omega) (by have := HST.out.hb; have := HST.out.hq.lt; simp; omega) (X1.heap.size + 1) (by simp) ?_; intro g5 d5 w1 hown1 hgrow hat hlt1; have hcap := RowD.Owns.cap (r := ⟨45, 5, some ⟨g5, 0, none⟩, t.code.length + 1, d5, _⟩) hown1; have hcap2 : (t.code.length : Int) ≤ (d5 : Int) := (by simp only at hcap; omega); have hgp := grown_pre hgrow; have e3 : w1.cell? ⟨gT, k * 3 + 1, none⟩ = some (.slice t.Ac t.code.length t.cc) := (hgp.cell_far _ a4 hneT).trans a3; have f3 : w1.frozen? ⟨gT, k * 3 + 1, none⟩ = false := (hgp.frozen_far _ a4 hneT).trans f2; have hl3 : gT < w1.heap.size := Nat.lt_of_lt_of_le a4 hgp.size; have HO := Lib.hid hown1; clear hown1))
        all_goals
          go_wp2_with fail
          go_meet
          have h1 := HST.out.code_ (q := ⟨(some ⟨g1, 0, none⟩), d1, p.vars, (some ⟨g2, 0, none⟩), d2, p.vols, (some ⟨g3, 0, none⟩), d3, p.locks, (some ⟨g4, 0, none⟩), d4, p.bars, some ⟨gT, 0, none⟩, c5, m⟩) rfl HTT.out rfl HO.out hgp hat
          rw [EL_code] at h1
          exact ⟨_, _, h1⟩
      case rest =>
      obtain ⟨g5, d5, hS⟩ := hcut
      obtain ⟨X2, rfl⟩ : ∃ x : World, x = wc := ⟨_, rfl⟩
      have HSU := Lib.hid hS
      have HT2 : Hid ((m.set k {t with Ac := some ⟨g5, 0, none⟩, cc := d5})[k]? = some {t with Ac := some ⟨g5, 0, none⟩, cc := d5}) := by
        rw [List.getElem?_set_self (List.getElem?_eq_some_iff.1 HTT.out).1]
        exact Lib.hid rfl
      have HB2 : Hid ((m.set k {t with Ac := some ⟨g5, 0, none⟩, cc := d5}).map Thr.bare = p.threads.map Thr.bare) := Lib.hid ((bare_set (t' := {t with Ac := some ⟨g5, 0, none⟩, cc := d5}) HTT.out rfl).trans HBM.out)
      clear hS HST
      go_upto_region 11 with (fail)
      have a3 : X2.cell? ⟨gT, k * 3 + 2, none⟩ = some (.slice t.Ap t.places.length t.cp) := HSU.out.thr_cell (q := ⟨(some ⟨g1, 0, none⟩), d1, p.vars, (some ⟨g2, 0, none⟩), d2, p.vols, (some ⟨g3, 0, none⟩), d3, p.locks, (some ⟨g4, 0, none⟩), d4, p.bars, some ⟨gT, 0, none⟩, c5, (m.set k {t with Ac := some ⟨g5, 0, none⟩, cc := d5})⟩) rfl HT2.out rfl 2 rfl
      have a4 : gT < X2.heap.size := ((HSU.out.rows.own .threads).lt (a := ⟨gT, 0, none⟩) rfl).2
      have f2 : X2.frozen? ⟨gT, k * 3 + 2, none⟩ = false := HSU.out.rows.frozen .threads rfl _
      have HOWN : Hid (X2.ownsRow (w.heap.size + 1 + 1) 68 2 (.slice t.Ap t.places.length t.cp) t.places.length (t.places.flatMap encP)) := by
        have h1 := HSU.out.rows.pl_ HT2.out
        have e : xtra ((EL (k + 1) k) (.pl k)) mkP = [] := by simp [EL, xtra]
        rw [e, rowOf_nil] at h1
        exact h1
      have hneT : some gT ≠ (Value.slice t.Ap t.places.length t.cp).ownBlock := by
        rw [ownBlock_slice]
        intro e
        obtain ⟨a, ha, hab⟩ := Option.map_eq_some_iff.1 e.symm
        refine HSU.out.rows.far .threads (.pl k) (by simp) ⟨gT, 0, none⟩ a rfl ?_ hab.symm
        simp only [Prg.rows, HT2.out]
        exact ha
      have lfit : t.places.length * 16 ≤ 140737488351232 := by
        have hb0 : ((m.set k {t with Ac := some ⟨g5, 0, none⟩, cc := d5}).map Thr.bare) = p.threads.map Thr.bare := HB2.out
        obtain ⟨x, hx⟩ := get_some (l := p.threads) (k := k) hlt
        have h1 : ((m.set k {t with Ac := some ⟨g5, 0, none⟩, cc := d5}).map Thr.bare)[k]? = some ({t with Ac := some ⟨g5, 0, none⟩, cc := d5} : Thr).bare := by rw [List.getElem?_map, HT2.out]; rfl
        have h2 : (p.threads.map Thr.bare)[k]? = some x.bare := by rw [List.getElem?_map, hx]; rfl
        rw [hb0, h2] at h1
        have h3 : x.places = t.places := congrArg ((·.2.2)) (Option.some.inj h1)
        have := (HW.out x (get_mem hx)).2
        rw [h3] at this
        exact this
      go_region_law ((refine step_append_lies _ (by rfl) (.tmp 78) (.tmp 80) 40 (by rfl) (w.heap.size + 1 + 1) 68 i6 _ 2 16 Tryd.underlying40 Hi6.out Hz6.out Hs6.out Hb6.out rfl (by omega) (.slice t.Ap t.places.length t.cp) t.places.length (t.places.flatMap encP) (by rfl) ((HOWN.out.alloc _).drew) ⟨X2.heap.size, 0, none⟩ 1 1 (encP mkP) (by rfl) (by rfl) (World.news_of_block (cs := #[.int .i64 77, .int .i64 0]) (t := 68) (fr := (0, 0)) (heap_alloc_new X2 _)) (oneP _) (by omega) (by simp only [maxLen]; omega) (by omega) (by have := HSU.out.hb; have := HSU.out.hq.lt; simp; omega) (X2.heap.size + 1) (by simp) ?_; intro g6 d6 w1 hown1 hgrow hat hlt1; have hcap := RowD.Owns.cap (r := ⟨68, 2, some ⟨g6, 0, none⟩, t.places.length + 1, d6, _⟩) hown1; have hcap2 : (t.places.length : Int) ≤ (d6 : Int) := (by simp only at hcap; omega); have hgp := grown_pre hgrow; have e3 : w1.cell? ⟨gT, k * 3 + 2, none⟩ = some (.slice t.Ap t.places.length t.cp) := (hgp.cell_far _ a4 hneT).trans a3; have f3 : w1.frozen? ⟨gT, k * 3 + 2, none⟩ = false := (hgp.frozen_far _ a4 hneT).trans f2; have hl3 : gT < w1.heap.size := Nat.lt_of_lt_of_le a4 hgp.size; have HO := Lib.hid hown1; clear hown1))
      all_goals
        go_wp2_with fail
        go_roundw
        case rel =>
          refine ⟨k + 1, (m.set k {t with Ac := some ⟨g5, 0, none⟩, cc := d5}).set k {({t with Ac := some ⟨g5, 0, none⟩, cc := d5} : Thr) with Ap := some ⟨g6, 0, none⟩, cp := d6}, by omega, by go_num, by simp [HLM.out], (bare_set (t' := {({t with Ac := some ⟨g5, 0, none⟩, cc := d5} : Thr) with Ap := some ⟨g6, 0, none⟩, cp := d6}) HT2.out rfl).trans HB2.out, ?_⟩
          have e : Prg.arr ⟨(some ⟨g1, 0, none⟩), d1, p.vars, (some ⟨g2, 0, none⟩), d2, p.vols, (some ⟨g3, 0, none⟩), d3, p.locks, (some ⟨g4, 0, none⟩), d4, p.bars, some ⟨gT, 0, none⟩, c5, ((m.set k {t with Ac := some ⟨g5, 0, none⟩, cc := d5}).set k {({t with Ac := some ⟨g5, 0, none⟩, cc := d5} : Thr) with Ap := some ⟨g6, 0, none⟩, cp := d6})⟩ = Prg.arr ⟨(some ⟨g1, 0, none⟩), d1, p.vars, (some ⟨g2, 0, none⟩), d2, p.vols, (some ⟨g3, 0, none⟩), d3, p.locks, (some ⟨g4, 0, none⟩), d4, p.bars, some ⟨gT, 0, none⟩, c5, m⟩ := by simp [Prg.arr]
          rw [e]
          have h1 := HSU.out.pl_ (q := ⟨(some ⟨g1, 0, none⟩), d1, p.vars, (some ⟨g2, 0, none⟩), d2, p.vols, (some ⟨g3, 0, none⟩), d3, p.locks, (some ⟨g4, 0, none⟩), d4, p.bars, some ⟨gT, 0, none⟩, c5, (m.set k {t with Ac := some ⟨g5, 0, none⟩, cc := d5})⟩) rfl HT2.out rfl HO.out hgp hat
          rw [EL_pl] at h1
          exact h1
        case measure => simp [intOf]; omega
    · obtain rfl : k = p.threads.length := by omega
      clear hk hlt
      obtain ⟨X1, rfl⟩ : ∃ x : World, x = wr := ⟨_, rfl⟩
      go_upto_region 12 with (fail)
      go_cut [] (fun wx => ∃ g5 d5, LSt w p (Prg.arr ⟨(some ⟨g1, 0, none⟩), d1, p.vars, (some ⟨g2, 0, none⟩), d2, p.vols, (some ⟨g3, 0, none⟩), d3, p.locks, (some ⟨g4, 0, none⟩), d4, p.bars, some ⟨g5, 0, none⟩, d5, m⟩) (Prg.rows ⟨(some ⟨g1, 0, none⟩), d1, p.vars, (some ⟨g2, 0, none⟩), d2, p.vols, (some ⟨g3, 0, none⟩), d3, p.locks, (some ⟨g4, 0, none⟩), d4, p.bars, some ⟨g5, 0, none⟩, d5, m⟩ (fun _ => true)) b wx)
      case first =>
        have a0 : X1.cell? ⟨w.heap.size, 4, none⟩ = some (.slice p.At p.threads.length p.ct) := HST.out.hp.cell 4
        have a3 : w.heap.size < X1.heap.size := HST.out.hp.lt
        have a4 : b < X1.heap.size := HST.out.hq.lt
        have f2 := HST.out.hq.frozen 4
        have HOWN : Hid (X1.ownsRow (w.heap.size + 1 + 1) 42 3 (.slice A5 p.threads.length c5) p.threads.length (m.flatMap Thr.cells)) := by
          have := HST.out.rows.own .threads
          have e : Prg.rows ⟨(some ⟨g1, 0, none⟩), d1, p.vars, (some ⟨g2, 0, none⟩), d2, p.vols, (some ⟨g3, 0, none⟩), d3, p.locks, (some ⟨g4, 0, none⟩), d4, p.bars, A5, c5, m⟩ (EL p.threads.length p.threads.length) .threads = ⟨42, 3, A5, m.length, c5, m.flatMap Thr.cells⟩ := rowOf_nil _ _ _ _ _ _
          rw [e, HLM.out] at this
          exact this
        have hneb : some b ≠ (Value.slice A5 p.threads.length c5).ownBlock := by rw [ownBlock_slice]; exact fun e => HST.out.row_ne .threads e.symm
        have hnew : some w.heap.size ≠ (Value.slice A5 p.threads.length c5).ownBlock := own_blk_lt HOWN.out (by omega)
        go_region_law ((refine step_append_lies _ (by rfl) (.tmp 91) (.tmp 93) 25 (by rfl) (w.heap.size + 1 + 1) 42 i4 _ 3 64 Tryd.underlying25 Hi4.out Hz4.out Hs4.out Hb4.out rfl (by omega) (.slice A5 p.threads.length c5) p.threads.length (m.flatMap Thr.cells) (by rfl) ((HOWN.out.alloc _).drew) ⟨X1.heap.size, 0, none⟩ 1 1 mkT.cells (by rfl) (by rfl) (World.news_of_block (cs := #[.string ⟨#[55, 55]⟩, .slice none 0 0, .slice none 0 0]) (t := 42) (fr := (0, 0)) (heap_alloc_new X1 _)) (oneT _) (by omega) (by simp only [maxLen]; omega) (by omega) (by have := HST.out.hb; simp; omega) (X1.heap.size + 1) (by simp) ?_; intro g5 d5 w1 hown1 hgrow hat hlt; have hcap := RowD.Owns.cap (r := ⟨42, 3, some ⟨g5, 0, none⟩, p.threads.length + 1, d5, _⟩) hown1; have hcap2 : (p.threads.length : Int) ≤ (d5 : Int) := (by simp only at hcap; omega); have hgp := grown_pre hgrow; have e3 : w1.cell? ⟨b, 4, none⟩ = some (.slice A5 p.threads.length c5) := (hgp.cell_far _ a4 hneb).trans a1; have e4 : w1.cell? ⟨w.heap.size, 4, none⟩ = some (.slice p.At p.threads.length p.ct) := (hgp.cell_far _ a3 hnew).trans a0; have f3 : w1.frozen? ⟨b, 4, none⟩ = false := (hgp.frozen_far _ a4 hneb).trans f2; have hl3 : b < w1.heap.size := Nat.lt_of_lt_of_le a4 hgp.size; have HO := Lib.hid hown1; clear hown1))
        all_goals
          go_wp2_with fail
          go_meet
          exact ⟨g5, d5, LSt.threads_ (q := ⟨(some ⟨g1, 0, none⟩), d1, p.vars, (some ⟨g2, 0, none⟩), d2, p.vols, (some ⟨g3, 0, none⟩), d3, p.locks, (some ⟨g4, 0, none⟩), d4, p.bars, A5, c5, m⟩) HST.out HLM.out HO.out hgp hat⟩
      case rest =>
      obtain ⟨g5, d5, hS⟩ := hcut
      obtain ⟨X2, rfl⟩ : ∃ x : World, x = wc := ⟨_, rfl⟩
      have HSV := Lib.hid hS
      clear hS HST a1 a2
      have hq0 : X2.cell? ⟨b, 0, none⟩ = some (.slice (some ⟨g1, 0, none⟩) p.vars.length d1) := HSV.out.hq.cell 0
      have hq1 : X2.cell? ⟨b, 1, none⟩ = some (.slice (some ⟨g2, 0, none⟩) p.vols.length d2) := HSV.out.hq.cell 1
      have hq2 : X2.cell? ⟨b, 2, none⟩ = some (.slice (some ⟨g3, 0, none⟩) p.locks.length d3) := HSV.out.hq.cell 2
      have hq3 : X2.cell? ⟨b, 3, none⟩ = some (.slice (some ⟨g4, 0, none⟩) p.bars.length d4) := HSV.out.hq.cell 3
      have hq4 : X2.cell? ⟨b, 4, none⟩ = some (.slice (some ⟨g5, 0, none⟩) p.threads.length d5) := (HSV.out.hq.cell 4).trans (by rw [← HLM.out]; rfl)
      have r0 : X2.cell? ⟨w.heap.size + 1, 0, none⟩ = some ns := HSV.out.hr.cell 0
      have r1 : X2.cell? ⟨w.heap.size + 1, 1, none⟩ = some ns := HSV.out.hr.cell 1
      have r2 : X2.cell? ⟨w.heap.size + 1, 2, none⟩ = some ns := HSV.out.hr.cell 2
      have r3 : X2.cell? ⟨w.heap.size + 1, 3, none⟩ = some ns := HSV.out.hr.cell 3
      have r4 : X2.cell? ⟨w.heap.size + 1, 4, none⟩ = some ns := HSV.out.hr.cell 4
      have f0 := HSV.out.hr.frozen 0
      have f1 := HSV.out.hr.frozen 1
      have f2 := HSV.out.hr.frozen 2
      have f3 := HSV.out.hr.frozen 3
      have f4 := HSV.out.hr.frozen 4
      have hlr := HSV.out.hr.lt
      have hlq := HSV.out.hq.lt
      go_wp2_with fail
      try simp only [Exit.inBlock, Exit.then]
      refine bodyPost_ret (v := Prg.val ⟨(some ⟨g1, 0, none⟩), d1, p.vars, (some ⟨g2, 0, none⟩), d2, p.vols, (some ⟨g3, 0, none⟩), d3, p.locks, (some ⟨g4, 0, none⟩), d4, p.bars, some ⟨g5, 0, none⟩, d5, m⟩) ?_ rfl ?_
      · have hlen := HLM.out
        have he : Prg.val ⟨(some ⟨g1, 0, none⟩), d1, p.vars, (some ⟨g2, 0, none⟩), d2, p.vols, (some ⟨g3, 0, none⟩), d3, p.locks, (some ⟨g4, 0, none⟩), d4, p.bars, some ⟨g5, 0, none⟩, d5, m⟩ = .agg #[.slice (some ⟨g1, 0, none⟩) p.vars.length d1, .slice (some ⟨g2, 0, none⟩) p.vols.length d2, .slice (some ⟨g3, 0, none⟩) p.locks.length d3, .slice (some ⟨g4, 0, none⟩) p.bars.length d4, .slice (some ⟨g5, 0, none⟩) p.threads.length d5] := by unfold Prg.val; rw [hlen]
        rw [he]
        exact results_cell_row rfl _ _ (w.heap.size + 1) 27 _ (0, 0) _ rfl (((((HSV.out.hr.set_ 0 _).set_ 1 _).set_ 2 _).set_ 3 _).set_ 4 _) Tryd.underlying27 rfl size_prg
      refine ⟨_, rfl, ?_, ⟨rfl, rfl, rfl, rfl, HBM.out⟩, ?_⟩
      · exact ((((HSV.out.bel.setCell (by simp) _).setCell (by simp) _).setCell (by simp) _).setCell (by simp) _).setCell (by simp) _
      · have h1 := ((((HSV.out.rows.setFar (p := ⟨w.heap.size + 1, 0, none⟩) (by simp only; omega) (.slice (some ⟨g1, 0, none⟩) p.vars.length d1)).setFar (p := ⟨w.heap.size + 1, 1, none⟩) (by simp only; omega) (.slice (some ⟨g2, 0, none⟩) p.vols.length d2)).setFar (p := ⟨w.heap.size + 1, 2, none⟩) (by simp only; omega) (.slice (some ⟨g3, 0, none⟩) p.locks.length d3)).setFar (p := ⟨w.heap.size + 1, 3, none⟩) (by simp only; omega) (.slice (some ⟨g4, 0, none⟩) p.bars.length d4)).setFar (p := ⟨w.heap.size + 1, 4, none⟩) (by simp only; omega) (.slice (some ⟨g5, 0, none⟩) p.threads.length d5)
        exact h1.base_ (by omega)
end Go.Proofs.YtknnbckmdfnmaaaDoor
