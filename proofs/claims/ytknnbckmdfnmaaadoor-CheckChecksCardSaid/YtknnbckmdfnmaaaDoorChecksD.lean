/- Words for abreastlaw11.CheckChecks: a program in rows of the call's own whose numbers and first name are written over. No condition. -/
import Derived.Test.YtknnbckmdfnmaaaDoorCopied
namespace Go.Proofs.YtknnbckmdfnmaaaDoor
open Go.RowKit

theorem flat_set5 : ∀ (l : List Ins) (k j : Nat) (x x' : Ins) (u : Value), l[k]? = some x → j < 5 → encI x' = (encI x).set j u → (l.flatMap encI).set (k * 5 + j) u = (l.set k x').flatMap encI
  | [], k, j, x, x', u, hk, _, _ => by simp at hk
  | y :: r, 0, j, x, x', u, hk, hj, he => by
    have : y = x := by simpa using hk
    subst this
    simp only [List.flatMap_cons, List.set_cons_zero, Nat.zero_mul, Nat.zero_add]
    rw [List.set_append_left _ _ (by exact hj), he]
  | y :: r, k + 1, j, x, x', u, hk, hj, he => by
    have h := flat_set5 r k j x x' u (by simpa using hk) hj he
    simp only [List.flatMap_cons, List.set_cons_succ]
    rw [List.set_append_right _ _ (by show 5 ≤ _; omega), show (k + 1) * 5 + j - (encI y).length = k * 5 + j from by show (k + 1) * 5 + j - 5 = _; omega, h]
def allE : Ix → Bool := fun _ => true
/-- q lies in box bq and in rows of the call's own (marks behind the lists); two spots lie in boxes of their own -/
structure ChSt (w : World) (q : Prg) (bq b5 b7 : Nat) (s5 s7 : Array Value) (W : World) : Prop where
  bel : Below w.heap.size w W
  hq : Blk W bq 27 q.arr
  h5 : Blk W b5 32 s5
  h7 : Blk W b7 32 s7
  rows : AllRows W (w.heap.size + 1) (q.rows allE)
  out : ∀ x a, (q.rows allE x).A = some a → a.block < bq
  ord : bq < b5 ∧ b5 < b7
  fits : q.Fits
  ops : q.Ops
section
variable {w W W1 : World} {q : Prg} {bq b5 b7 : Nat} {s5 s7 : Array Value}
theorem ChSt.below (h : ChSt w q bq b5 b7 s5 s7 W) (hb : Below W.heap.size W W1) : ChSt w q bq b5 b7 s5 s7 W1 :=
  ⟨h.bel.trans (hb.mono h.bel.size), h.hq.below hb h.hq.lt, h.h5.below hb h.h5.lt, h.h7.below hb h.h7.lt, h.rows.below hb, h.out, h.ord, h.fits, h.ops⟩
theorem mark_thr (h : ChSt w q bq b5 b7 s5 s7 W) : ∃ g, q.At = some ⟨g, 0, none⟩ ∧ g < W.heap.size := by
  obtain ⟨g, hA, _, hg⟩ := (h.rows.own .threads).form (by show 0 < q.threads.length + _; simp [xtra, allE])
  exact ⟨g, hA, hg⟩
theorem mark_vars (h : ChSt w q bq b5 b7 s5 s7 W) : ∃ g, q.Av = some ⟨g, 0, none⟩ ∧ g < W.heap.size := by
  obtain ⟨g, hA, _, hg⟩ := (h.rows.own .vars).form (by show 0 < q.vars.length + _; simp [xtra, allE])
  exact ⟨g, hA, hg⟩
theorem mark_code (h : ChSt w q bq b5 b7 s5 s7 W) {i : Nat} {t : Thr} (ht : q.threads[i]? = some t) : ∃ g, t.Ac = some ⟨g, 0, none⟩ ∧ g < W.heap.size := by
  obtain ⟨g, hA, _, hg⟩ := (h.rows.code_ ht).form (by show 0 < t.code.length + _; simp [xtra, allE])
  exact ⟨g, hA, hg⟩
theorem ChSt.thr_cell (h : ChSt w q bq b5 b7 s5 s7 W) {i gT : Nat} {t : Thr} (hA : q.At = some ⟨gT, 0, none⟩) (ht : q.threads[i]? = some t) (j : Nat) {u : Value} (hu : t.cells[j]? = some u) : W.cell? ⟨gT, i * 3 + j, none⟩ = some u := by
  refine h.rows.cell .threads hA (i := i * 3 + j) ?_
  exact flat_get (enc := Thr.cells) (size := 3) (fun _ => rfl) (q.threads ++ [mkT]) i j t u (by rw [List.getElem?_append_left (List.getElem?_eq_some_iff.1 ht).1]; exact ht) hu
theorem ChSt.ins_cell (h : ChSt w q bq b5 b7 s5 s7 W) {i k gc : Nat} {t : Thr} {x : Ins} (ht : q.threads[i]? = some t) (hx : t.code[k]? = some x) (hA : t.Ac = some ⟨gc, 0, none⟩) (j : Nat) {u : Value} (hu : (encI x)[j]? = some u) :
    W.cell? ⟨gc, k * 5 + j, none⟩ = some u ∧ W.frozen? ⟨gc, k * 5 + j, none⟩ = false := by
  have hr : (q.rows allE (.code i)) = rowOf 45 5 encI t.Ac t.cc t.code [mkI] := by simp [Prg.rows, ht, xtra, allE]
  have hA' : (q.rows allE (.code i)).A = some ⟨gc, 0, none⟩ := by rw [hr]; exact hA
  refine ⟨h.rows.cell (.code i) hA' (i := k * 5 + j) ?_, h.rows.frozen (.code i) hA' _⟩
  rw [hr]
  exact flat_get (enc := encI) (size := 5) (fun _ => rfl) (t.code ++ [mkI]) k j x u (by rw [List.getElem?_append_left (List.getElem?_eq_some_iff.1 hx).1]; exact hx) hu
def Prg.setT (q : Prg) (i : Nat) (t : Thr) : Prg := {q with threads := q.threads.set i t}
def Thr.setN (t : Thr) (k : Nat) (x : Ins) (y : Int) : Thr := {t with code := t.code.set k {x with n := y}}
theorem setN_cells (t : Thr) (k : Nat) (x : Ins) (y : Int) : (t.setN k x y).cells = t.cells := by simp [Thr.setN, Thr.cells]
theorem set_same {α β : Type} (f : α → List β) : ∀ (l : List α) (i : Nat) (t t' : α), l[i]? = some t → f t' = f t → (l.set i t').flatMap f = l.flatMap f
  | [], i, t, t', h, _ => by simp at h
  | a :: r, 0, t, t', h, he => by
    have : a = t := by simpa using h
    subst this
    simp [he]
  | a :: r, i + 1, t, t', h, he => by
    have := set_same f r i t t' (by simpa using h) he
    simp [this]
theorem ChSt.ins (h : ChSt w q bq b5 b7 s5 s7 W) {i k gc : Nat} {t : Thr} {x : Ins} (ht : q.threads[i]? = some t) (hx : t.code[k]? = some x) (hA : t.Ac = some ⟨gc, 0, none⟩) (y : Int) :
    ChSt w (q.setT i (t.setN k x y)) bq b5 b7 s5 s7 (W.setCell ⟨gc, k * 5 + 4, none⟩ (.int .i64 y)) := by
  obtain ⟨hi, he⟩ := List.getElem?_eq_some_iff.1 ht
  have hkl := (List.getElem?_eq_some_iff.1 hx).1
  have hr : (q.rows allE (.code i)) = rowOf 45 5 encI t.Ac t.cc t.code [mkI] := by simp [Prg.rows, ht, xtra, allE]
  have hA' : (q.rows allE (.code i)).A = some ⟨gc, 0, none⟩ := by rw [hr]; exact hA
  have hgc : gc < bq := h.out (.code i) _ hA'
  have hge : w.heap.size + 1 ≤ gc := ((h.rows.own (.code i)).lt hA').1
  have hord := h.ord
  have h1 := h.rows.set (.code i) hA' (k * 5 + 4) (.int .i64 y)
  have hR : upd (q.rows allE) (.code i) ⟨(q.rows allE (.code i)).e, (q.rows allE (.code i)).size, (q.rows allE (.code i)).A, (q.rows allE (.code i)).n, (q.rows allE (.code i)).c, (q.rows allE (.code i)).xs.set (k * 5 + 4) (.int .i64 y)⟩ = (q.setT i (t.setN k x y)).rows allE := by
    have hfs : ((t.code ++ [mkI]).flatMap encI).set (k * 5 + 4) (.int .i64 y) = ((t.code ++ [mkI]).set k {x with n := y}).flatMap encI := by
      have := flat_set5 (t.code ++ [mkI]) k 4 x {x with n := y} (.int .i64 y) (by rw [List.getElem?_append_left hkl]; exact hx) (by omega) rfl
      exact this
    rw [hr]
    simp only [rowOf, hfs]
    funext z
    cases z with
    | code j =>
      by_cases hj : j = i
      · subst hj
        simp [upd, Prg.rows, Prg.setT, Thr.setN, hi, rowOf, xtra, allE, List.set_append_left _ _ hkl]
      · simp [upd, Prg.rows, Prg.setT, hj, List.getElem?_set_ne (fun e => hj e.symm)]
    | pl j =>
      by_cases hj : j = i
      · subst hj
        simp [upd, Prg.rows, Prg.setT, Thr.setN, hi, he]
      · simp [upd, Prg.rows, Prg.setT, List.getElem?_set_ne (fun e => hj e.symm)]
    | threads =>
      simp only [upd, Prg.rows, Prg.setT, rowOf, List.length_set, List.flatMap_append]
      rw [set_same Thr.cells q.threads i t (t.setN k x y) ht (setN_cells t k x y)]
      simp
    | _ => simp [upd, Prg.rows, Prg.setT]
  rw [hR] at h1
  have harr : (q.setT i (t.setN k x y)).arr = q.arr := by simp [Prg.arr, Prg.setT]
  refine ⟨h.bel.setCell (by simp only; omega) _, ?_, h.h5.far (p := ⟨gc, k * 5 + 4, none⟩) (by simp only; omega) _, h.h7.far (p := ⟨gc, k * 5 + 4, none⟩) (by simp only; omega) _, h1, ?_, h.ord, ?_, ?_⟩
  · rw [harr]
    exact h.hq.far (p := ⟨gc, k * 5 + 4, none⟩) (by simp only; omega) _
  · rw [← hR]
    intro z a ha
    by_cases hz : z = .code i
    · subst hz
      rw [upd_self] at ha
      exact h.out (.code i) a ha
    · rw [upd_other _ _ hz] at ha
      exact h.out z a ha
  · have hf := h.fits
    have hft := hf.fthreads t (get_mem ht)
    refine ⟨hf.vars, hf.vols, hf.locks, hf.bars, by simpa [Prg.setT] using hf.threads, hf.cv, hf.co, hf.cl, hf.cb, by simpa [Prg.setT] using hf.ct, hf.nvars, hf.nvols, hf.nlocks, hf.nbars, fun z hz => ?_⟩
    rcases List.mem_or_eq_of_mem_set hz with hz | rfl
    · exact hf.fthreads z hz
    · exact ⟨hft.name, by simpa [Thr.setN] using hft.code, hft.places, by simpa [Thr.setN] using hft.cc, hft.cp⟩
  · intro z hz v hv
    rcases List.mem_or_eq_of_mem_set hz with hz | rfl
    · exact h.ops z hz v hv
    · rcases List.mem_or_eq_of_mem_set hv with hv | rfl
      · exact h.ops t (get_mem ht) v hv
      · exact h.ops t (get_mem ht) x (get_mem hx)
theorem ChSt.nam (h : ChSt w q bq b5 b7 s5 s7 W) {gV : Nat} {x : Nam} (hx : q.vars[0]? = some x) (hA : q.Av = some ⟨gV, 0, none⟩) (nm : ByteArray) (hnm : nm.size ≤ 140737488355328) :
    ChSt w {q with vars := q.vars.set 0 ⟨nm, x.num⟩} bq b5 b7 s5 s7 (W.setCell ⟨gV, 0, none⟩ (.string nm)) := by
  have hkl := (List.getElem?_eq_some_iff.1 hx).1
  have hr : (q.rows allE .vars) = rowOf 47 2 encN q.Av q.cv q.vars [mkN] := rfl
  have hgc : gV < bq := h.out .vars _ hA
  have hge : w.heap.size + 1 ≤ gV := ((h.rows.own .vars).lt hA).1
  have hord := h.ord
  have h1 := h.rows.set .vars (g := gV) hA 0 (.string nm)
  have hR : upd (q.rows allE) .vars ⟨(q.rows allE .vars).e, (q.rows allE .vars).size, (q.rows allE .vars).A, (q.rows allE .vars).n, (q.rows allE .vars).c, (q.rows allE .vars).xs.set 0 (.string nm)⟩ = ({q with vars := q.vars.set 0 ⟨nm, x.num⟩} : Prg).rows allE := by
    rw [hr]
    simp only [rowOf]
    funext z
    cases z with
    | vars =>
      rcases hv : q.vars with _ | ⟨a, r⟩
      · rw [hv] at hkl; simp at hkl
      · have : a = x := by rw [hv] at hx; simpa using hx
        subst this
        simp [upd, Prg.rows, rowOf, xtra, allE, encN]
    | _ => simp [upd, Prg.rows]
  rw [hR] at h1
  have harr : ({q with vars := q.vars.set 0 ⟨nm, x.num⟩} : Prg).arr = q.arr := by simp [Prg.arr]
  refine ⟨h.bel.setCell (by simp only; omega) _, ?_, h.h5.far (p := ⟨gV, 0, none⟩) (by simp only; omega) _, h.h7.far (p := ⟨gV, 0, none⟩) (by simp only; omega) _, h1, ?_, h.ord, ?_, h.ops⟩
  · rw [harr]
    exact h.hq.far (p := ⟨gV, 0, none⟩) (by simp only; omega) _
  · rw [← hR]
    intro z a ha
    by_cases hz : z = .vars
    · subst hz
      rw [upd_self] at ha
      exact h.out .vars a ha
    · rw [upd_other _ _ hz] at ha
      exact h.out z a ha
  · have hf := h.fits
    refine ⟨by simpa using hf.vars, hf.vols, hf.locks, hf.bars, hf.threads, by simpa using hf.cv, hf.co, hf.cl, hf.cb, hf.ct, fun z hz => ?_, hf.nvols, hf.nlocks, hf.nbars, hf.fthreads⟩
    rcases List.mem_or_eq_of_mem_set hz with hz | rfl
    · exact hf.nvars z hz
    · exact hnm
theorem ChSt.set7 (h : ChSt w q bq b5 b7 s5 s7 W) (k : Nat) (u : Value) : ChSt w q bq b5 b7 s5 (s7.setIfInBounds k u) (W.setCell ⟨b7, k, none⟩ u) := by
  have hord := h.ord
  have hlt := h.h7.lt
  refine ⟨?_, h.hq.far (p := ⟨b7, k, none⟩) (by simp only; omega) _, h.h5.far (p := ⟨b7, k, none⟩) (by simp only; omega) _, h.h7.set_ k u, h.rows.setOut (p := ⟨b7, k, none⟩) (fun x a ha => by have := h.out x a ha; simp only; omega) u, h.out, h.ord, h.fits, h.ops⟩
  obtain ⟨g, hA, _⟩ := mark_thr h
  have h1 := h.out .threads _ hA
  have h2 := ((h.rows.own .threads).lt hA).1
  simp only at h1 h2
  exact h.bel.setCell (by simp only; omega) _
theorem ChSt.set5 (h : ChSt w q bq b5 b7 s5 s7 W) (k : Nat) (u : Value) : ChSt w q bq b5 b7 (s5.setIfInBounds k u) s7 (W.setCell ⟨b5, k, none⟩ u) := by
  have hord := h.ord
  have hlt := h.h7.lt
  refine ⟨?_, h.hq.far (p := ⟨b5, k, none⟩) (by simp only; omega) _, h.h5.set_ k u, h.h7.far (p := ⟨b5, k, none⟩) (by simp only; omega) _, h.rows.setOut (p := ⟨b5, k, none⟩) (fun x a ha => by have := h.out x a ha; simp only; omega) u, h.out, h.ord, h.fits, h.ops⟩
  obtain ⟨g, hA, _⟩ := mark_thr h
  have h1 := h.out .threads _ hA
  have h2 := ((h.rows.own .threads).lt hA).1
  simp only at h1 h2
  exact h.bel.setCell (by simp only; omega) _
end
end Go.Proofs.YtknnbckmdfnmaaaDoor
