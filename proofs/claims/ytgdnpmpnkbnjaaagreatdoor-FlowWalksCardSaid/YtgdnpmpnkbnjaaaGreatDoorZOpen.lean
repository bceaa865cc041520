/- The argument api.Program opened: from its reading as data to Prg, In, Fits. -/
import Derived.Test.YtgdnpmpnkbnjaaaGreatDoorZE
import Derived.Deep.Slices
import Derived.SizedLaws
namespace Go.Proofs.YtgdnpmpnkbnjaaaGreatDoor
open Go.ChangeShapes Go.WideShapes Go.RowKit Go.Deep

theorem choose_list {α : Type} : ∀ {n : Nat} {R : Nat → α → Prop}, (∀ i, i < n → ∃ v, R i v) → ∃ l : List α, l.length = n ∧ ∀ i v, l[i]? = some v → R i v := by
  intro n
  induction n with
  | zero => intro R h; exact ⟨[], rfl, by simp⟩
  | succ n ih =>
    intro R h
    obtain ⟨v0, h0⟩ := h 0 (by omega)
    obtain ⟨l, h1, h2⟩ := ih (R := fun i v => R (i + 1) v) (fun i hi => h (i + 1) (by omega))
    refine ⟨v0 :: l, by simp [h1], fun i v hv => ?_⟩
    cases i with
    | zero => exact Option.some.inj hv ▸ h0
    | succ i => exact h2 i v hv
section
variable {H : Type} {enc : TypeId × Value → H} {P : Program} {w : World} {base : Nat} {held : Bool}
theorem open_rd {α : Type} {enc' : α → List Value} {size : Nat} (hsz : 0 < size) (henc : ∀ x, (enc' x).length = size) {Q : α → DataW H → Prop} {t e : TypeId} {fuel : Nat} {cs : List Value} {x : DataW H × List MemPlace} (ht : P.underlying t = some (.slice e)) (hC : P.cellsOf e = size)
    (he : ∀ n cs' y, DataW.trod enc P w base (fun _ => true) held n e cs' = some y → ∃ a : α, cs' = enc' a ∧ Q a y.1)
    (h : DataW.trod enc P w base (fun _ => true) held fuel t cs = some x) :
    ∃ (A : Option Addr) (l : List α) (c : Nat), cs = [.slice A l.length c] ∧ l.length ≤ c ∧ RdL enc' size w w.heap.size A l ∧
      ((x.1 = .nil ∧ l = []) ∨ ∃ ds sp, x.1 = .slice ds sp ∧ ds.length + sp.length = c ∧ ds.length = l.length ∧ ∀ (k : Nat) (a : α), l[k]? = some a → ∃ d, ds[k]? = some d ∧ Q a d) := by
  rcases open_slice ht h with ⟨rfl, rfl⟩ | ⟨a, len, cap, m, n, D, Pl, rfl, hb, hl, hm, rfl, rfl, hi⟩
  · exact ⟨none, [], 0, rfl, Nat.le_refl _, fun hne => absurd rfl hne, .inl ⟨rfl, rfl⟩⟩
  · have hi' : ∀ i, i < len → ∃ v : α, w.cells? base (a.add (i * size)) size = some (enc' v) ∧ Q v (D i) := by
      intro i hil
      obtain ⟨cs', h1, h2⟩ := hi i (by omega)
      obtain ⟨v, h3, h4⟩ := he _ _ _ h2
      rw [hC, h3] at h1
      exact ⟨v, h1, h4⟩
    obtain ⟨l, hlen, hl2⟩ := choose_list hi'
    refine ⟨some a, l, m, by rw [hlen], by omega, fun hne => ?_, .inr ⟨_, _, rfl, by simp; omega, by simp [hlen], fun k v hk => ?_⟩⟩
    · have h0 : 0 < l.length := List.length_pos_iff.2 hne
      obtain ⟨v0, hv0⟩ := get_some h0
      have hcell : ∀ (k : Nat) (v : α), l[k]? = some v → ∀ (j : Nat) (u : Value), (enc' v)[j]? = some u → w.cell? (a.add (k * size + j)) = some u := by
        intro k v hk j u hj
        obtain ⟨_, _, hat⟩ := World.cells?_some (hl2 k v hk).1
        have hjs : j < size := by rw [← henc v]; exact (List.getElem?_eq_some_iff.1 hj).1
        rw [← add_of_add, hat j hjs, hj]
      obtain ⟨u0, hu0⟩ := get_some (l := enc' v0) (k := 0) (by rw [henc]; exact hsz)
      have hc0 := hcell 0 v0 hv0 0 u0 hu0
      have ha0 : a.add (0 * size + 0) = a := by simp [Addr.add]
      rw [ha0] at hc0
      have hspot := World.cell?_spot hc0
      obtain ⟨g, off, sp⟩ := a
      obtain rfl : sp = none := hspot
      refine ⟨g, off, rfl, ?_, fun k v hk j u hj => ?_⟩
      · unfold World.cell? at hc0
        cases hh : w.heap[g]? with
        | none => rw [hh] at hc0; cases hc0
        | some o => exact (Array.getElem?_eq_some_iff.1 hh).1
      · have := hcell k v hk j u hj
        rw [add_plain', ← Nat.add_assoc] at this
        exact this
    · have hkl : k < len := by rw [← hlen]; exact (List.getElem?_eq_some_iff.1 hk).1
      exact ⟨D k, by simp [hkl], (hl2 k v hk).2⟩
theorem fld {w : World} {base m : Nat} {held : Bool} {fs : Array Field} {cs : List Value} {xs : List (DataW H × List MemPlace)} (hf : ∀ (i : Nat) (f : Field), fs[i]? = some f → DataW.trod enc P w base (fun _ => true) held m f.type ((cs.drop f.offset).take (P.cellsOf f.type)) = xs[i]?)
    (i o : Nat) (u : TypeId) (h : (fs[i]?).map (fun f => (f.type, f.offset)) = some (u, o)) : DataW.trod enc P w base (fun _ => true) held m u ((cs.drop o).take (P.cellsOf u)) = xs[i]? := by
  obtain ⟨f, h1, h2⟩ := Option.map_eq_some_iff.1 h
  obtain ⟨rfl, rfl⟩ := Prod.mk.inj h2
  exact hf i f h1
def open_strQ (a : ByteArray) (d : DataW H) : Prop := d = .lit (.string a.data.toList)
def open_insQ (a : Ins) (d : DataW H) : Prop := d = .agg [.lit (.int .i64 a.op), .lit (.int .i64 a.a), .lit (.int .i64 a.b), .lit (.int .i64 a.c), .lit (.int .i64 a.n)] ∧ (Lit.int .i64 a.op).wf = true ∧ (Lit.int .i64 a.n).wf = true
def open_plaQ (a : Pla) (d : DataW H) : Prop := d = .agg [.lit (.int .i64 a.line), .lit (.int .i64 a.col)]
def open_varQ (a : Nam) (d : DataW H) : Prop := d = .agg [.lit (.string a.name.data.toList), .lit (.int .i64 a.num)]
def open_barQ (a : Nam) (d : DataW H) : Prop := d = .agg [.lit (.string a.name.data.toList), .lit (.int .i64 a.num)]
set_option maxRecDepth 100000 in
theorem open_ins {n : Nat} {cs : List Value} {y : DataW H × List MemPlace} (h : DataW.trod enc Tryz.prog w base (fun _ => true) held n 53 cs = some y) : ∃ a : Ins, cs = encI a ∧ open_insQ a y.1 := by
  obtain ⟨xs, m, _, rfl, hl, hlen, hf⟩ := DataW.trod_struct Tryz.underlying53 h
  rw [show Tryz.prog.cellsOf 53 = 5 by kernel_rfl] at hl
  match cs, hl, xs, hlen with
  | [c0, c1, c2, c3, c4], _, [y0, y1, y2, y3, y4], _ =>
    have h0 := fld hf 0 0 51 rfl
    simp only [show Tryz.prog.cellsOf 51 = 1 by kernel_rfl] at h0
    obtain ⟨v0, e0, r0, w0⟩ := DataW.trod_int Tryz.underlying51 h0
    simp at e0
    subst e0
    have h1 := fld hf 1 1 3 rfl
    simp only [show Tryz.prog.cellsOf 3 = 1 by kernel_rfl] at h1
    obtain ⟨v1, e1, r1, _⟩ := DataW.trod_int Tryz.underlying3 h1
    simp at e1
    subst e1
    have h2 := fld hf 2 2 3 rfl
    simp only [show Tryz.prog.cellsOf 3 = 1 by kernel_rfl] at h2
    obtain ⟨v2, e2, r2, _⟩ := DataW.trod_int Tryz.underlying3 h2
    simp at e2
    subst e2
    have h3 := fld hf 3 3 3 rfl
    simp only [show Tryz.prog.cellsOf 3 = 1 by kernel_rfl] at h3
    obtain ⟨v3, e3, r3, _⟩ := DataW.trod_int Tryz.underlying3 h3
    simp at e3
    subst e3
    have h4 := fld hf 4 4 3 rfl
    simp only [show Tryz.prog.cellsOf 3 = 1 by kernel_rfl] at h4
    obtain ⟨v4, e4, r4, w4⟩ := DataW.trod_int Tryz.underlying3 h4
    simp at e4
    subst e4
    exact ⟨⟨v0, v1, v2, v3, v4⟩, rfl, by simp [open_insQ, r0, r1, r2, r3, r4, w0, w4]⟩
set_option maxRecDepth 100000 in
theorem open_pla {n : Nat} {cs : List Value} {y : DataW H × List MemPlace} (h : DataW.trod enc Tryz.prog w base (fun _ => true) held n 120 cs = some y) : ∃ a : Pla, cs = encP a ∧ open_plaQ a y.1 := by
  obtain ⟨xs, m, _, rfl, hl, hlen, hf⟩ := DataW.trod_struct Tryz.underlying120 h
  rw [show Tryz.prog.cellsOf 120 = 2 by kernel_rfl] at hl
  match cs, hl, xs, hlen with
  | [c0, c1], _, [y0, y1], _ =>
    have h0 := fld hf 0 0 3 rfl
    simp only [show Tryz.prog.cellsOf 3 = 1 by kernel_rfl] at h0
    obtain ⟨v0, e0, r0, _⟩ := DataW.trod_int Tryz.underlying3 h0
    simp at e0
    subst e0
    have h1 := fld hf 1 1 3 rfl
    simp only [show Tryz.prog.cellsOf 3 = 1 by kernel_rfl] at h1
    obtain ⟨v1, e1, r1, _⟩ := DataW.trod_int Tryz.underlying3 h1
    simp at e1
    subst e1
    exact ⟨⟨v0, v1⟩, rfl, by simp [open_plaQ, r0, r1]⟩
set_option maxRecDepth 100000 in
theorem open_var {n : Nat} {cs : List Value} {y : DataW H × List MemPlace} (h : DataW.trod enc Tryz.prog w base (fun _ => true) held n 116 cs = some y) : ∃ a : Nam, cs = encN a ∧ open_varQ a y.1 := by
  obtain ⟨xs, m, _, rfl, hl, hlen, hf⟩ := DataW.trod_struct Tryz.underlying116 h
  rw [show Tryz.prog.cellsOf 116 = 2 by kernel_rfl] at hl
  match cs, hl, xs, hlen with
  | [c0, c1], _, [y0, y1], _ =>
    have h0 := fld hf 0 0 9 rfl
    simp only [show Tryz.prog.cellsOf 9 = 1 by kernel_rfl] at h0
    obtain ⟨v0, e0, r0, _⟩ := DataW.trod_string Tryz.underlying9 h0
    simp at e0
    subst e0
    have h1 := fld hf 1 1 3 rfl
    simp only [show Tryz.prog.cellsOf 3 = 1 by kernel_rfl] at h1
    obtain ⟨v1, e1, r1, _⟩ := DataW.trod_int Tryz.underlying3 h1
    simp at e1
    subst e1
    exact ⟨⟨v0, v1⟩, rfl, by simp [open_varQ, r0, r1]⟩
set_option maxRecDepth 100000 in
theorem open_bar {n : Nat} {cs : List Value} {y : DataW H × List MemPlace} (h : DataW.trod enc Tryz.prog w base (fun _ => true) held n 105 cs = some y) : ∃ a : Nam, cs = encN a ∧ open_barQ a y.1 := by
  obtain ⟨xs, m, _, rfl, hl, hlen, hf⟩ := DataW.trod_struct Tryz.underlying105 h
  rw [show Tryz.prog.cellsOf 105 = 2 by kernel_rfl] at hl
  match cs, hl, xs, hlen with
  | [c0, c1], _, [y0, y1], _ =>
    have h0 := fld hf 0 0 9 rfl
    simp only [show Tryz.prog.cellsOf 9 = 1 by kernel_rfl] at h0
    obtain ⟨v0, e0, r0, _⟩ := DataW.trod_string Tryz.underlying9 h0
    simp at e0
    subst e0
    have h1 := fld hf 1 1 3 rfl
    simp only [show Tryz.prog.cellsOf 3 = 1 by kernel_rfl] at h1
    obtain ⟨v1, e1, r1, _⟩ := DataW.trod_int Tryz.underlying3 h1
    simp at e1
    subst e1
    exact ⟨⟨v0, v1⟩, rfl, by simp [open_barQ, r0, r1]⟩
theorem open_str {n : Nat} {cs : List Value} {y : DataW H × List MemPlace} (h : DataW.trod enc Tryz.prog w base (fun _ => true) held n 9 cs = some y) : ∃ a : ByteArray, cs = encS a ∧ open_strQ a y.1 := by
  obtain ⟨v, e, r, _⟩ := DataW.trod_string Tryz.underlying9 h
  exact ⟨v, e, by simp [open_strQ, r]⟩
/-- what the datum of a slice says of the list that it reads as -/
def Sl {α : Type} (l : List α) (c : Nat) (Q : α → DataW H → Prop) (d : DataW H) : Prop :=
  (d = .nil ∧ l = []) ∨ ∃ ds sp, d = .slice ds sp ∧ ds.length + sp.length = c ∧ ds.length = l.length ∧ ∀ (k : Nat) (a : α), l[k]? = some a → ∃ d', ds[k]? = some d' ∧ Q a d'
def Wt (P : Program) (t : TypeId) (d : DataW H) : Prop := ∀ n ∈ d.weights P t, n ≤ 140737488351232
theorem wt_all {e : TypeId} {ds : List (DataW H)} {d : DataW H} (hd : d ∈ ds) {n : Nat} (hn : n ∈ d.weights P e) : n ∈ DataW.weightsAll P e ds := by
  induction ds with
  | nil => cases hd
  | cons x r ih =>
    simp only [DataW.weightsAll, List.mem_append]
    rcases List.mem_cons.1 hd with rfl | hd
    · exact .inl hn
    · exact .inr (ih hd)
theorem Sl.fit {α : Type} {l : List α} {c : Nat} {Q : α → DataW H → Prop} {d : DataW H} {t e : TypeId} {b : Nat} (h : Sl l c Q d) (hw : Wt P t d) (ht : P.underlying t = some (.slice e)) (hb : P.bytesOf e = b) :
    l.length * b ≤ 140737488351232 ∧ ∀ a ∈ l, ∃ d', Q a d' ∧ Wt P e d' := by
  rcases h with ⟨_, rfl⟩ | ⟨ds, sp, rfl, _, hl, hk⟩
  · exact ⟨by simp, by simp⟩
  · unfold Wt at hw
    simp only [DataW.weights, ht] at hw
    refine ⟨?_, fun a ha => ?_⟩
    · have := hw _ (List.mem_cons_self ..)
      rw [hb, Nat.add_mul, hl] at this
      omega
    · obtain ⟨k, hk2⟩ := List.mem_iff_getElem?.1 ha
      obtain ⟨d', h1, h2⟩ := hk k a hk2
      exact ⟨d', h2, fun n hn => hw n (List.mem_cons_of_mem _ (List.mem_append_left _ (wt_all (List.mem_of_getElem? h1) hn)))⟩
theorem Wt.part {t : TypeId} {ds : List (DataW H)} {fs : Array Field} (hw : Wt P t (.agg ds)) (ht : P.underlying t = some (.struct fs)) {ts : List TypeId} (hts : fs.toList.map (·.type) = ts) {j : Nat} {u : TypeId} {d : DataW H} (hu : ts[j]? = some u) (hd : ds[j]? = some d) : Wt P u d := by
  subst hts
  intro n hn
  refine hw n ?_
  simp only [DataW.weights, ht]
  exact DataW.weights_mem_each hu hd n hn
theorem Wt.str {t : TypeId} {s : List UInt8} (hw : Wt P t (.lit (.string s) : DataW H)) : s.length ≤ 140737488351232 := hw _ (by simp [DataW.weights])
def open_thrQ (w : World) (a : Thr) (d : DataW H) : Prop :=
  ∃ dc dp, d = .agg [.lit (.string a.name.data.toList), dc, dp] ∧ a.In w w.heap.size ∧ a.code.length ≤ a.cc ∧ a.places.length ≤ a.cp ∧ Sl a.code a.cc open_insQ dc ∧ Sl a.places a.cp open_plaQ dp
set_option maxRecDepth 100000 in
theorem open_thr {n : Nat} {cs : List Value} {y : DataW H × List MemPlace} (h : DataW.trod enc Tryz.prog w base (fun _ => true) held n 49 cs = some y) : ∃ a : Thr, cs = a.cells ∧ open_thrQ w a y.1 := by
  obtain ⟨xs, m, _, rfl, hl, hlen, hf⟩ := DataW.trod_struct Tryz.underlying49 h
  rw [show Tryz.prog.cellsOf 49 = 3 by kernel_rfl] at hl
  match cs, hl, xs, hlen with
  | [c0, c1, c2], _, [y0, y1, y2], _ =>
    have h0 := fld hf 0 0 9 rfl
    simp only [show Tryz.prog.cellsOf 9 = 1 by kernel_rfl] at h0
    obtain ⟨v0, e0, r0, _⟩ := DataW.trod_string Tryz.underlying9 h0
    simp at e0
    subst e0
    have h1 := fld hf 1 1 46 rfl
    simp only [show Tryz.prog.cellsOf 46 = 1 by kernel_rfl] at h1
    obtain ⟨A1, l1, k1, e1, hc1, hR1, hS1⟩ := open_rd (enc' := encI) (size := 5) (by decide) (fun _ => rfl) Tryz.underlying46 (by kernel_rfl) (fun n cs' y hy => open_ins hy) h1
    simp at e1
    subst e1
    have h2 := fld hf 2 2 47 rfl
    simp only [show Tryz.prog.cellsOf 47 = 1 by kernel_rfl] at h2
    obtain ⟨A2, l2, k2, e2, hc2, hR2, hS2⟩ := open_rd (enc' := encP) (size := 2) (by decide) (fun _ => rfl) Tryz.underlying47 (by kernel_rfl) (fun n cs' y hy => open_pla hy) h2
    simp at e2
    subst e2
    subst r0
    exact ⟨⟨v0, A1, k1, l1, A2, k2, l2⟩, rfl, _, _, rfl, ⟨hR1, hR2⟩, hc1, hc2, hS1, hS2⟩
/-- every number of the program is one that its type holds -/
structure Prg.Wf (p : Prg) : Prop where
  names : ∀ x ∈ p.vars, x.name.size ≤ 140737488351232
  code : ∀ t ∈ p.threads, t.code.length * 40 ≤ 140737488351232 ∧ t.places.length * 16 ≤ 140737488351232
  ins : ∀ t ∈ p.threads, ∀ x ∈ t.code, (Lit.int .i64 x.op).wf = true ∧ (Lit.int .i64 x.n).wf = true
theorem Prg.Wf.ops {p : Prg} (h : p.Wf) : p.Ops := fun t ht x hx => (h.ins t ht x hx).1
set_option maxRecDepth 100000 in
theorem open_prg {r : Reach} {b0 : Nat} {v : Value} {d : DataW H} {ps : List MemPlace} (hv : Value.okWide Tryz.prog w r b0 27 v) (h : DataW.Trod enc Tryz.prog w base (fun _ => true) held 27 v d ps) (hw : Wt Tryz.prog 27 d) :
    ∃ p : Prg, v = p.val ∧ p.In w w.heap.size ∧ p.Fits ∧ p.Wf := by
  obtain ⟨cs, rfl, hsz⟩ := okWide_struct Tryz.underlying27 hv
  obtain ⟨fuel, hf0⟩ := h
  obtain ⟨xs, m, _, hx, hl, hlen, hf⟩ := DataW.trod_struct Tryz.underlying27 hf0
  obtain ⟨cs⟩ := cs
  rw [show Tryz.prog.cellsOf 27 = 5 by kernel_rfl] at hsz hl
  simp only [Prod.mk.injEq] at hx
  obtain ⟨rfl, _⟩ := hx
  match cs, hsz, xs, hlen with
  | [c0, c1, c2, c3, c4], _, [y0, y1, y2, y3, y4], _ =>
    have hp := fun (j : Nat) (u : TypeId) (d : DataW H) => Wt.part (j := j) (u := u) (d := d) hw Tryz.underlying27 rfl
    have h0 := fld hf 0 0 22 rfl
    simp only [show Tryz.prog.cellsOf 22 = 1 by kernel_rfl] at h0
    obtain ⟨A0, l0, k0, e0, hc0, hR0, hS0⟩ := open_rd (enc' := encN) (size := 2) (by decide) (fun _ => rfl) Tryz.underlying22 (by kernel_rfl) (fun n cs' y hy => open_var hy) h0
    have h1 := fld hf 1 1 22 rfl
    simp only [show Tryz.prog.cellsOf 22 = 1 by kernel_rfl] at h1
    obtain ⟨A1, l1, k1, e1, hc1, hR1, hS1⟩ := open_rd (enc' := encN) (size := 2) (by decide) (fun _ => rfl) Tryz.underlying22 (by kernel_rfl) (fun n cs' y hy => open_var hy) h1
    have h2 := fld hf 2 2 23 rfl
    simp only [show Tryz.prog.cellsOf 23 = 1 by kernel_rfl] at h2
    obtain ⟨A2, l2, k2, e2, hc2, hR2, hS2⟩ := open_rd (enc' := encS) (size := 1) (by decide) (fun _ => rfl) Tryz.underlying23 (by kernel_rfl) (fun n cs' y hy => open_str hy) h2
    have h3 := fld hf 3 3 24 rfl
    simp only [show Tryz.prog.cellsOf 24 = 1 by kernel_rfl] at h3
    obtain ⟨A3, l3, k3, e3, hc3, hR3, hS3⟩ := open_rd (enc' := encN) (size := 2) (by decide) (fun _ => rfl) Tryz.underlying24 (by kernel_rfl) (fun n cs' y hy => open_bar hy) h3
    have h4 := fld hf 4 4 25 rfl
    simp only [show Tryz.prog.cellsOf 25 = 1 by kernel_rfl] at h4
    obtain ⟨A4, l4, k4, e4, hc4, hR4, hS4⟩ := open_rd (enc' := Thr.cells) (size := 3) (by decide) (fun _ => rfl) Tryz.underlying25 (by kernel_rfl) (fun n cs' y hy => open_thr hy) h4
    simp [Value.cells] at e0 e1 e2 e3 e4
    subst e0 e1 e2 e3 e4
    obtain ⟨f0, m0⟩ := Sl.fit hS0 (hp 0 _ _ rfl rfl) Tryz.underlying22 (b := 24) (by kernel_rfl)
    obtain ⟨f1, m1⟩ := Sl.fit hS1 (hp 1 _ _ rfl rfl) Tryz.underlying22 (b := 24) (by kernel_rfl)
    obtain ⟨f2, m2⟩ := Sl.fit hS2 (hp 2 _ _ rfl rfl) Tryz.underlying23 (b := 16) (by kernel_rfl)
    obtain ⟨f3, m3⟩ := Sl.fit hS3 (hp 3 _ _ rfl rfl) Tryz.underlying24 (b := 24) (by kernel_rfl)
    obtain ⟨f4, m4⟩ := Sl.fit hS4 (hp 4 _ _ rfl rfl) Tryz.underlying25 (b := 64) (by kernel_rfl)
    have ht : ∀ t ∈ l4, t.In w w.heap.size ∧ t.Fits ∧ (t.code.length * 40 ≤ 140737488351232 ∧ t.places.length * 16 ≤ 140737488351232) ∧ ∀ x ∈ t.code, (Lit.int .i64 x.op).wf = true ∧ (Lit.int .i64 x.n).wf = true := by
      intro t hm
      obtain ⟨d', ⟨dc, dp, rfl, hin, hcc, hcp, hs1, hs2⟩, hwt⟩ := m4 t hm
      have hq := fun (j : Nat) (u : TypeId) (d : DataW H) => Wt.part (j := j) (u := u) (d := d) hwt Tryz.underlying49 rfl
      have q0 := (hq 0 _ _ rfl rfl).str
      obtain ⟨q1, n1⟩ := hs1.fit (hq 1 _ _ rfl rfl) Tryz.underlying46 (b := 40) (by kernel_rfl)
      obtain ⟨q2, _⟩ := hs2.fit (hq 2 _ _ rfl rfl) Tryz.underlying47 (b := 16) (by kernel_rfl)
      refine ⟨hin, ⟨?_, by omega, by omega, hcc, hcp⟩, ⟨q1, q2⟩, fun x hx => ?_⟩
      · have : t.name.data.toList.length = t.name.size := by simp
        omega
      · obtain ⟨d'', hQ, _⟩ := n1 x hx
        exact hQ.2
    have hnm : ∀ (Q : Nam → DataW H → Prop) (u : TypeId) (fs : Array Field), Tryz.prog.underlying u = some (.struct fs) → (fs.toList.map (·.type))[0]? = some 9 → (∀ a d, Q a d → d = .agg [.lit (.string a.name.data.toList), .lit (.int .i64 a.num)]) → ∀ (l : List Nam), (∀ a ∈ l, ∃ d', Q a d' ∧ Wt Tryz.prog u d') → ∀ a ∈ l, a.name.size ≤ 140737488351232 := by
      intro Q u fs hu hfs hQ l hl a ha
      obtain ⟨d', h1, h2⟩ := hl a ha
      obtain rfl := hQ a d' h1
      have q0 := (Wt.part h2 hu rfl (j := 0) hfs rfl).str
      have : a.name.data.toList.length = a.name.size := by simp
      omega
    have hv0 := hnm open_varQ _ _ Tryz.underlying116 rfl (fun _ _ h => h) l0 m0
    refine ⟨⟨A0, k0, l0, A1, k1, l1, A2, k2, l2, A3, k3, l3, A4, k4, l4⟩, rfl, ⟨hR0, hR1, hR2, hR3, hR4, fun t hm => (ht t hm).1⟩, ⟨f0, f1, f2, f3, f4, hc0, hc1, hc2, hc3, hc4, fun x hx => Nat.le_trans (hv0 x hx) (by decide), ?_, ?_, ?_, fun t hm => (ht t hm).2.1⟩, ⟨hv0, fun t hm => (ht t hm).2.2.1, fun t hm => (ht t hm).2.2.2⟩⟩
    · exact fun x hx => Nat.le_trans (hnm open_varQ _ _ Tryz.underlying116 rfl (fun _ _ h => h) l1 m1 x hx) (by decide)
    · intro s hs
      obtain ⟨d', h1, h2⟩ := m2 s hs
      obtain rfl : d' = _ := h1
      have q0 := h2.str
      have : s.data.toList.length = s.size := by simp
      omega
    · exact fun x hx => Nat.le_trans (hnm open_barQ _ _ Tryz.underlying105 rfl (fun _ _ h => h) l3 m3 x hx) (by decide)
end
end Go.Proofs.YtgdnpmpnkbnjaaaGreatDoor
