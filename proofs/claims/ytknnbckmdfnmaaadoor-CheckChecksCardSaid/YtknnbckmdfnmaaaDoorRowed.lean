/- Words for a program whose lists are rows of the call's own, with or without one more element behind each list: no two rows share a block; how appends, stores and calls keep that. No condition. -/
import Derived.Test.YtknnbckmdfnmaaaDoorSame
namespace Go.Proofs.YtknnbckmdfnmaaaDoor
open Go.RowKit

structure RowD where
  e : TypeId
  size : Nat
  A : Option Addr
  n : Nat
  c : Nat
  xs : List Value
def RowD.Owns (r : RowD) (w : World) (base : Nat) : Prop := w.ownsRow base r.e r.size (.slice r.A r.n r.c) r.n r.xs
def RowD.none_ (e : TypeId) (size : Nat) : RowD := ⟨e, size, none, 0, 0, []⟩
inductive Ix where
  | vars | vols | locks | bars | threads
  | code (i : Nat)
  | pl (i : Nat)
deriving DecidableEq
def upd (R : Ix → RowD) (j : Ix) (r : RowD) : Ix → RowD := fun x => if x = j then r else R x
theorem upd_self (R : Ix → RowD) (j : Ix) (r : RowD) : upd R j r j = r := if_pos rfl
theorem upd_other (R : Ix → RowD) {j x : Ix} (r : RowD) (h : x ≠ j) : upd R j r x = R x := if_neg h
structure AllRows (w : World) (base : Nat) (R : Ix → RowD) : Prop where
  own : ∀ x, (R x).Owns w base
  far : ∀ x y, x ≠ y → ∀ a b, (R x).A = some a → (R y).A = some b → a.block ≠ b.block
theorem ownBlock_slice (A : Option Addr) (n c : Nat) : (Value.slice A n c).ownBlock = A.map (·.block) := by cases A <;> rfl
theorem RowD.Owns.lt {r : RowD} {w : World} {base : Nat} (h : r.Owns w base) {a : Addr} (ha : r.A = some a) : base ≤ a.block ∧ a.block < w.heap.size :=
  World.ownsRow.lt h a.block (by rw [ownBlock_slice, ha]; rfl)
theorem RowD.Owns.form {r : RowD} {w : World} {base : Nat} (h : r.Owns w base) (hn : 0 < r.n) : ∃ g, r.A = some ⟨g, 0, none⟩ ∧ base ≤ g ∧ g < w.heap.size := by
  obtain ⟨g, cap, hv, hb, hl⟩ := World.ownsRow.form h hn
  injection hv with hv
  exact ⟨g, hv, hb, hl⟩
theorem RowD.Owns.cap {r : RowD} {w : World} {base : Nat} (h : r.Owns w base) : r.n ≤ r.c := by
  rcases h.2 with ⟨hv, h0⟩ | ⟨g, cap, cur, hv, _, _, hnc, _⟩
  · omega
  · injection hv with _ _ h3
    omega
theorem RowD.none_owns (e : TypeId) (size : Nat) (w : World) (base : Nat) : (RowD.none_ e size).Owns w base := World.ownsRow_nil _ _ _ _
section
variable {w w' : World} {base : Nat} {R : Ix → RowD}
theorem AllRows.put (h : AllRows w base R) (j : Ix) (r : RowD) (ho : r.Owns w' base) (hg : w.grownBy w' ((R j).A.map (·.block)))
    (hb : ∀ b, r.A = some b → (∃ a, (R j).A = some a ∧ a.block = b.block) ∨ w.heap.size ≤ b.block) : AllRows w' base (upd R j r) := by
  have hfar : ∀ y, y ≠ j → ∀ a b, r.A = some a → (R y).A = some b → a.block ≠ b.block := by
    intro y hy a b ha hyb
    rcases hb a ha with ⟨a', ha', e⟩ | hlt
    · rw [← e]
      exact h.far j y (fun e => hy e.symm) a' b ha' hyb
    · have := ((h.own y).lt hyb).2
      omega
  refine ⟨fun x => ?_, fun x y hxy a b ha hb' => ?_⟩
  · by_cases hx : x = j
    · subst hx
      rw [upd_self]
      exact ho
    · rw [upd_other R r hx]
      refine World.ownsRow.kept (h.own x) hg ?_
      rw [ownBlock_slice]
      cases hA : (R x).A with
      | none => exact .inl rfl
      | some a =>
        refine .inr fun e => ?_
        cases hJ : (R j).A with
        | none => rw [hJ] at e; cases e
        | some b =>
          rw [hJ] at e
          injection e with e
          exact h.far x j hx a b hA hJ e
  · by_cases hx : x = j
    · subst hx
      rw [upd_self] at ha
      rw [upd_other R r (fun e => hxy e.symm)] at hb'
      exact hfar y (fun e => hxy e.symm) a b ha hb'
    · rw [upd_other R r hx] at ha
      by_cases hy : y = j
      · subst hy
        rw [upd_self] at hb'
        exact fun e => hfar x hx b a hb' ha e.symm
      · rw [upd_other R r hy] at hb'
        exact h.far x y hxy a b ha hb'
theorem AllRows.kept (h : AllRows w base R) {row : Option Nat} (hg : w.grownBy w' row) (hr : ∀ g, row = some g → g < base ∨ w.heap.size ≤ g) : AllRows w' base R := by
  refine ⟨fun x => World.ownsRow.kept (h.own x) hg ?_, h.far⟩
  rw [ownBlock_slice]
  cases hA : (R x).A with
  | none => exact .inl rfl
  | some a =>
    refine .inr fun e => ?_
    have h1 := (h.own x).lt hA
    rcases hr a.block e.symm with h2 | h2 <;> omega
theorem AllRows.below (h : AllRows w base R) (hb : Below w.heap.size w w') : AllRows w' base R := h.kept (only_of_below hb none) (fun _ e => by cases e)
theorem AllRows.setFar (h : AllRows w base R) {p : Addr} (hp : p.block < base) (u : Value) : AllRows (w.setCell p u) base R := by
  refine h.kept (row := some p.block) ⟨rfl, rfl, rfl, by simp [World.setCell], fun i _ hne => Below.heap_setCell w p u i (fun e => hne (by rw [e]))⟩ ?_
  intro g e
  injection e with e
  exact .inl (by omega)
theorem own_set {e : TypeId} {size n c g : Nat} {xs : List Value} (h : w.ownsRow base e size (.slice (some ⟨g, 0, none⟩) n c) n xs) (i : Nat) (u : Value) :
    (w.setCell ⟨g, i, none⟩ u).ownsRow base e size (.slice (some ⟨g, 0, none⟩) n c) n (xs.set i u) := by
  refine ⟨by rw [List.length_set]; exact h.1, ?_⟩
  rcases h.2 with ⟨hv, _⟩ | ⟨g', cap, cur, hv, hb, hh, hnc, hcm, hcs, ht⟩
  · cases hv
  · injection hv with hv h2 h3
    injection hv with hv
    injection hv with hv
    subst hv h3
    refine .inr ⟨g, c, cur.setIfInBounds i u, rfl, hb, Blk.set_ (t := e) hh i u, hnc, hcm, by simpa using hcs, ?_⟩
    rw [Array.toList_setIfInBounds, List.take_set, ht]
theorem AllRows.set (h : AllRows w base R) (j : Ix) {g : Nat} (hA : (R j).A = some ⟨g, 0, none⟩) (i : Nat) (u : Value) :
    AllRows (w.setCell ⟨g, i, none⟩ u) base (upd R j ⟨(R j).e, (R j).size, (R j).A, (R j).n, (R j).c, (R j).xs.set i u⟩) := by
  refine h.put j _ ?_ ?_ ?_
  · have h1 := h.own j
    unfold RowD.Owns at h1 ⊢
    rw [hA] at h1
    simp only [hA]
    exact own_set h1 i u
  · rw [hA]
    exact ⟨rfl, rfl, rfl, by simp [World.setCell], fun k _ hne => Below.heap_setCell w _ u k (fun e => hne (by rw [e]; rfl))⟩
  · intro b hb
    exact .inl ⟨_, hA, by rw [hA] at hb; injection hb with hb; rw [hb]⟩
theorem AllRows.frozen (h : AllRows w base R) (j : Ix) {g : Nat} (hA : (R j).A = some ⟨g, 0, none⟩) (i : Nat) : w.frozen? ⟨g, i, none⟩ = false := by
  have h1 := h.own j
  unfold RowD.Owns at h1
  rcases h1.2 with ⟨hv, _⟩ | ⟨g', cap, cur, hv, hb, hh, _⟩
  · rw [hA] at hv; cases hv
  · rw [hA] at hv
    injection hv with hv
    injection hv with hv
    injection hv with hv
    subst hv
    exact Blk.frozen (t := (R j).e) hh i
theorem AllRows.cell (h : AllRows w base R) (j : Ix) {g : Nat} (hA : (R j).A = some ⟨g, 0, none⟩) {i : Nat} {u : Value} (hu : (R j).xs[i]? = some u) : w.cell? ⟨g, i, none⟩ = some u := by
  have h1 := World.ownsRow.cells (h.own j) (g := g) (by rw [ownBlock_slice, hA]; rfl) i u hu
  rw [add_plain', Nat.zero_add] at h1
  exact h1
end

def xtra {α : Type} (b : Bool) (m : α) : List α := if b then [m] else []
def rowOf {α : Type} (e : TypeId) (size : Nat) (enc : α → List Value) (A : Option Addr) (c : Nat) (l ex : List α) : RowD := ⟨e, size, A, l.length + ex.length, c, (l ++ ex).flatMap enc⟩
def mkN : Nam := ⟨⟨#[]⟩, 77⟩
def mkS : ByteArray := ⟨#[55, 55]⟩
def mkT : Thr := ⟨⟨#[55, 55]⟩, none, 0, [], none, 0, []⟩
def mkI : Ins := ⟨0, 0, 0, 0, 77⟩
def mkP : Pla := ⟨77, 0⟩
/-- the rows of a program; where E says so a mark stands behind the list -/
def Prg.rows (q : Prg) (E : Ix → Bool) : Ix → RowD
  | .vars => rowOf 47 2 encN q.Av q.cv q.vars (xtra (E .vars) mkN)
  | .vols => rowOf 47 2 encN q.Ao q.co q.vols (xtra (E .vols) mkN)
  | .locks => rowOf 9 1 encS q.Al q.cl q.locks (xtra (E .locks) mkS)
  | .bars => rowOf 65 2 encN q.Ab q.cb q.bars (xtra (E .bars) mkN)
  | .threads => rowOf 42 3 Thr.cells q.At q.ct q.threads (xtra (E .threads) mkT)
  | .code i => match q.threads[i]? with
    | some t => rowOf 45 5 encI t.Ac t.cc t.code (xtra (E (.code i)) mkI)
    | none => RowD.none_ 45 5
  | .pl i => match q.threads[i]? with
    | some t => rowOf 68 2 encP t.Ap t.cp t.places (xtra (E (.pl i)) mkP)
    | none => RowD.none_ 68 2
theorem row_rdl {α : Type} {enc : α → List Value} {w : World} {base size c : Nat} {e : TypeId} {A : Option Addr} {l ex : List α} (henc : ∀ x, (enc x).length = size)
    (h : (rowOf e size enc A c l ex).Owns w base) : RdL enc size w w.heap.size A l := by
  obtain ⟨A', c', hv, _, hr⟩ := RdL.of_own henc (l := l ++ ex) (by simp [rowOf]) h
  injection hv with hv
  subst hv
  intro hne
  obtain ⟨g, off, e1, hg, hk⟩ := hr (by simp [hne])
  exact ⟨g, off, e1, hg, fun k x hx => hk k x (by rw [List.getElem?_append_left (List.getElem?_eq_some_iff.1 hx).1]; exact hx)⟩
section
variable {w : World} {base : Nat} {q p : Prg} {E : Ix → Bool}
theorem AllRows.code_ (h : AllRows w base (q.rows E)) {i : Nat} {t : Thr} (ht : q.threads[i]? = some t) : (rowOf 45 5 encI t.Ac t.cc t.code (xtra (E (.code i)) mkI)).Owns w base := by
  have := h.own (.code i)
  simp only [Prg.rows, ht] at this
  exact this
theorem AllRows.pl_ (h : AllRows w base (q.rows E)) {i : Nat} {t : Thr} (ht : q.threads[i]? = some t) : (rowOf 68 2 encP t.Ap t.cp t.places (xtra (E (.pl i)) mkP)).Owns w base := by
  have := h.own (.pl i)
  simp only [Prg.rows, ht] at this
  exact this
theorem AllRows.in_ (h : AllRows w base (q.rows E)) : q.In w w.heap.size := by
  refine ⟨row_rdl (fun _ => rfl) (h.own .vars), row_rdl (fun _ => rfl) (h.own .vols), row_rdl (fun _ => rfl) (h.own .locks), row_rdl (fun _ => rfl) (h.own .bars), row_rdl (fun _ => rfl) (h.own .threads), fun t ht => ?_⟩
  obtain ⟨i, hi⟩ := List.mem_iff_getElem?.1 ht
  exact ⟨row_rdl (fun _ => rfl) (h.code_ hi), row_rdl (fun _ => rfl) (h.pl_ hi)⟩
theorem AllRows.fits (h : AllRows w base (q.rows E)) (hs : q.Same p) (hf : p.Fits) : q.Fits := by
  have c1 := (h.own .vars).cap
  have c2 := (h.own .vols).cap
  have c3 := (h.own .locks).cap
  have c4 := (h.own .bars).cap
  have c5 := (h.own .threads).cap
  simp only [Prg.rows, rowOf] at c1 c2 c3 c4 c5
  refine ⟨?_, ?_, ?_, ?_, ?_, by omega, by omega, by omega, by omega, by omega, ?_, ?_, ?_, ?_, fun t ht => ?_⟩
  · rw [hs.vars]; exact hf.vars
  · rw [hs.vols]; exact hf.vols
  · rw [hs.locks]; exact hf.locks
  · rw [hs.bars]; exact hf.bars
  · rw [hs.len]; exact hf.threads
  · rw [hs.vars]; exact hf.nvars
  · rw [hs.vols]; exact hf.nvols
  · rw [hs.locks]; exact hf.nlocks
  · rw [hs.bars]; exact hf.nbars
  · obtain ⟨i, hi⟩ := List.mem_iff_getElem?.1 ht
    have hl : i < p.threads.length := by rw [← hs.len]; exact (List.getElem?_eq_some_iff.1 hi).1
    obtain ⟨b, hb⟩ := get_some hl
    obtain ⟨e1, e2, e3⟩ := hs.at_ hi hb
    have hft := hf.fthreads b (get_mem hb)
    have d1 := (h.code_ hi).cap
    have d2 := (h.pl_ hi).cap
    simp only [rowOf] at d1 d2
    refine ⟨by rw [e1]; exact hft.name, by rw [e2]; exact hft.code, by rw [e3]; exact hft.places, by omega, by omega⟩
theorem Prg.Same.ops (hs : q.Same p) (h : p.Ops) : q.Ops := by
  intro t ht x hx
  obtain ⟨i, hi⟩ := List.mem_iff_getElem?.1 ht
  have hl : i < p.threads.length := by rw [← hs.len]; exact (List.getElem?_eq_some_iff.1 hi).1
  obtain ⟨b, hb⟩ := get_some hl
  obtain ⟨_, e2, _⟩ := hs.at_ hi hb
  exact h b (get_mem hb) x (by rw [← e2]; exact hx)
end
/-- the mark behind a list -/
theorem row_mark {α : Type} {enc : α → List Value} {w : World} {base size c : Nat} {e : TypeId} {A : Option Addr} {l : List α} {m : α} (henc : ∀ x, (enc x).length = size)
    (h : (rowOf e size enc A c l [m]).Owns w base) : ∃ g, A = some ⟨g, 0, none⟩ ∧ g < w.heap.size ∧ base ≤ g ∧ l.length + 1 ≤ c ∧ ∀ j u, (enc m)[j]? = some u → w.cell? ⟨g, l.length * size + j, none⟩ = some u := by
  obtain ⟨g, hA, hb, hg⟩ := h.form (by simp [rowOf])
  have hA' : A = some ⟨g, 0, none⟩ := hA
  obtain ⟨A', c', hv, hc, hr⟩ := RdL.of_own henc (l := l ++ [m]) (by simp [rowOf]) h
  injection hv with hv h2 h3
  obtain ⟨g', off, e1, _, hk⟩ := hr (by simp)
  have hv' : A = A' := hv
  rw [← hv', hA'] at e1
  injection e1 with e1
  injection e1 with e1 e2
  subst e1 e2
  have hcap := h.cap
  refine ⟨g, hA', hg, hb, by simpa [rowOf] using hcap, fun j u hj => ?_⟩
  have := hk l.length m (by simp) j u hj
  simpa using this
theorem AllRows.app {w w' : World} {base : Nat} {R : Ix → RowD} (h : AllRows w base R) (j : Ix) {v : Value} {n c : Nat} {xs : List Value} {A : Option Addr} (hv : v.ownBlock = (R j).A.map (·.block)) (ho : w'.ownsRow base (R j).e (R j).size (.slice A n c) n xs)
    (hg : w.grownBy w' v.ownBlock) (hb : (Value.slice A n c).ownBlock = v.ownBlock ∨ (Value.slice A n c).ownBlock = some w.heap.size) : AllRows w' base (upd R j ⟨(R j).e, (R j).size, A, n, c, xs⟩) := by
  refine h.put j _ ho (hv ▸ hg) fun b hA => ?_
  rw [ownBlock_slice, hv] at hb
  simp only at hA
  rw [hA] at hb
  rcases hb with hb | hb
  · cases hJ : (R j).A with
    | none => rw [hJ] at hb; cases hb
    | some a => rw [hJ] at hb; injection hb with hb; exact .inl ⟨a, rfl, hb.symm⟩
  · have hb : b.block = w.heap.size := by simpa using hb
    exact .inr (by omega)
def setE (E : Ix → Bool) (j : Ix) (b : Bool) : Ix → Bool := fun x => if x = j then b else E x
def noE : Ix → Bool := fun _ => false
theorem setE_no (j : Ix) : setE noE j false = noE := by funext x; unfold setE noE; split <;> rfl
theorem rows_vars (q : Prg) (E : Ix → Bool) (b : Bool) (A : Option Addr) (c : Nat) (l : List Nam) : upd (q.rows E) .vars (rowOf 47 2 encN A c l (xtra b mkN)) = ({q with Av := A, cv := c, vars := l} : Prg).rows (setE E .vars b) := by
  funext x; cases x <;> simp [upd, Prg.rows, setE]
theorem rows_vols (q : Prg) (E : Ix → Bool) (b : Bool) (A : Option Addr) (c : Nat) (l : List Nam) : upd (q.rows E) .vols (rowOf 47 2 encN A c l (xtra b mkN)) = ({q with Ao := A, co := c, vols := l} : Prg).rows (setE E .vols b) := by
  funext x; cases x <;> simp [upd, Prg.rows, setE]
theorem rows_locks (q : Prg) (E : Ix → Bool) (b : Bool) (A : Option Addr) (c : Nat) (l : List ByteArray) : upd (q.rows E) .locks (rowOf 9 1 encS A c l (xtra b mkS)) = ({q with Al := A, cl := c, locks := l} : Prg).rows (setE E .locks b) := by
  funext x; cases x <;> simp [upd, Prg.rows, setE]
theorem rows_bars (q : Prg) (E : Ix → Bool) (b : Bool) (A : Option Addr) (c : Nat) (l : List Nam) : upd (q.rows E) .bars (rowOf 65 2 encN A c l (xtra b mkN)) = ({q with Ab := A, cb := c, bars := l} : Prg).rows (setE E .bars b) := by
  funext x; cases x <;> simp [upd, Prg.rows, setE]
/-- the list of threads in another row, or with a mark behind it -/
theorem rows_threads (q : Prg) (E : Ix → Bool) (b : Bool) (A : Option Addr) (c : Nat) : upd (q.rows E) .threads (rowOf 42 3 Thr.cells A c q.threads (xtra b mkT)) = ({q with At := A, ct := c} : Prg).rows (setE E .threads b) := by
  funext x; cases x <;> simp [upd, Prg.rows, setE]
/-- one thread more, with rows of its own -/
theorem rows_more (q : Prg) (t : Thr) (A : Option Addr) (c : Nat) :
    upd (upd (upd (q.rows noE) (.code q.threads.length) (rowOf 45 5 encI t.Ac t.cc t.code [])) (.pl q.threads.length) (rowOf 68 2 encP t.Ap t.cp t.places [])) .threads (rowOf 42 3 Thr.cells A c (q.threads ++ [t]) []) =
      ({q with At := A, ct := c, threads := q.threads ++ [t]} : Prg).rows noE := by
  funext x
  cases x with
  | code i =>
    rcases Nat.lt_trichotomy i q.threads.length with h | h | h
    · simp [upd, Prg.rows, List.getElem?_append_left h, Nat.ne_of_lt h]
    · subst h
      simp [upd, Prg.rows, noE, xtra]
    · rw [show ({q with At := A, ct := c, threads := q.threads ++ [t]} : Prg).rows noE (.code i) = RowD.none_ 45 5 from by simp [Prg.rows, List.getElem?_eq_none (show (q.threads ++ [t]).length ≤ i by simp; omega)]]
      simp [upd, Prg.rows, List.getElem?_eq_none (show q.threads.length ≤ i by omega), Nat.ne_of_gt h]
  | pl i =>
    rcases Nat.lt_trichotomy i q.threads.length with h | h | h
    · simp [upd, Prg.rows, List.getElem?_append_left h, Nat.ne_of_lt h]
    · subst h
      simp [upd, Prg.rows, noE, xtra]
    · rw [show ({q with At := A, ct := c, threads := q.threads ++ [t]} : Prg).rows noE (.pl i) = RowD.none_ 68 2 from by simp [Prg.rows, List.getElem?_eq_none (show (q.threads ++ [t]).length ≤ i by simp; omega)]]
      simp [upd, Prg.rows, List.getElem?_eq_none (show q.threads.length ≤ i by omega), Nat.ne_of_gt h]
  | _ => simp [upd, Prg.rows, noE, xtra]
/-- the code of one thread in another row, or with a mark behind it -/
theorem rows_code (q : Prg) (E : Ix → Bool) (b : Bool) (i : Nat) (t : Thr) (ht : q.threads[i]? = some t) (A : Option Addr) (c : Nat) (l : List Ins) :
    upd (upd (q.rows E) (.code i) (rowOf 45 5 encI A c l (xtra b mkI))) .threads (rowOf 42 3 Thr.cells q.At q.ct (q.threads.set i {t with Ac := A, cc := c, code := l}) (xtra (E .threads) mkT)) =
      ({q with threads := q.threads.set i {t with Ac := A, cc := c, code := l}} : Prg).rows (setE E (.code i) b) := by
  obtain ⟨hi, he⟩ := List.getElem?_eq_some_iff.1 ht
  funext x
  cases x with
  | code j =>
    by_cases h : j = i
    · subst h
      simp [upd, Prg.rows, setE, hi]
    · simp [upd, Prg.rows, setE, h, List.getElem?_set_ne (fun e => h e.symm)]
  | pl j =>
    by_cases h : j = i
    · subst h
      simp [upd, Prg.rows, setE, hi, he]
    · simp [upd, Prg.rows, setE, List.getElem?_set_ne (fun e => h e.symm)]
  | _ => simp [upd, Prg.rows, setE]
/-- the places of one thread likewise -/
theorem rows_pl (q : Prg) (E : Ix → Bool) (b : Bool) (i : Nat) (t : Thr) (ht : q.threads[i]? = some t) (A : Option Addr) (c : Nat) (l : List Pla) :
    upd (upd (q.rows E) (.pl i) (rowOf 68 2 encP A c l (xtra b mkP))) .threads (rowOf 42 3 Thr.cells q.At q.ct (q.threads.set i {t with Ap := A, cp := c, places := l}) (xtra (E .threads) mkT)) =
      ({q with threads := q.threads.set i {t with Ap := A, cp := c, places := l}} : Prg).rows (setE E (.pl i) b) := by
  obtain ⟨hi, he⟩ := List.getElem?_eq_some_iff.1 ht
  funext x
  cases x with
  | pl j =>
    by_cases h : j = i
    · subst h
      simp [upd, Prg.rows, setE, hi]
    · simp [upd, Prg.rows, setE, h, List.getElem?_set_ne (fun e => h e.symm)]
  | code j =>
    by_cases h : j = i
    · subst h
      simp [upd, Prg.rows, setE, hi, he]
    · simp [upd, Prg.rows, setE, List.getElem?_set_ne (fun e => h e.symm)]
  | _ => simp [upd, Prg.rows, setE]
theorem one_flat {α : Type} {enc : α → List Value} (h : ∀ x, ∀ u ∈ enc x, u.oneCell' = true) (l : List α) : ∀ u ∈ l.flatMap enc, u.oneCell' = true := by
  intro u hu
  obtain ⟨x, _, hx⟩ := List.mem_flatMap.1 hu
  exact h x u hx
theorem oneN (x : Nam) : ∀ u ∈ encN x, u.oneCell' = true := by simp [encN, Value.oneCell']
theorem oneSx (x : ByteArray) : ∀ u ∈ encS x, u.oneCell' = true := by simp [encS, Value.oneCell']
theorem oneI (x : Ins) : ∀ u ∈ encI x, u.oneCell' = true := by simp [encI, Value.oneCell']
theorem oneP (x : Pla) : ∀ u ∈ encP x, u.oneCell' = true := by simp [encP, Value.oneCell']
theorem oneT (x : Thr) : ∀ u ∈ x.cells, u.oneCell' = true := by simp [Thr.cells, Value.oneCell']
/-- the program of no lists -/
def Prg.no : Prg := ⟨none, 0, [], none, 0, [], none, 0, [], none, 0, [], none, 0, []⟩
theorem AllRows.no (w : World) (base : Nat) : AllRows w base (Prg.no.rows noE) := by
  have hA : ∀ x, (Prg.no.rows noE x).A = none := fun x => by cases x <;> rfl
  refine ⟨fun x => ?_, fun x y _ a b ha _ => by rw [hA] at ha; cases ha⟩
  cases x <;> exact World.ownsRow_nil _ _ _ _
end Go.Proofs.YtknnbckmdfnmaaaDoor
