/- Contract of abreastref11.Copied: a program of the same content, every list in a row of the call's own. Condition: the program lies in memory and fits. -/
import Derived.Test.YtknnbckmdfnmaaaDoorRowed
import Derived.Deep.Cut
namespace Go.Proofs.YtknnbckmdfnmaaaDoor
open Go.RowKit

theorem info_nam : (Tryd.prog.info? 47).map (fun i => (i.zero, i.size, i.bytes)) = some (some (.agg #[.string ⟨#[]⟩, .int .i64 0]), 2, 24) := by kernel_rfl
theorem info_bar : (Tryd.prog.info? 65).map (fun i => (i.zero, i.size, i.bytes)) = some (some (.agg #[.string ⟨#[]⟩, .int .i64 0]), 2, 24) := by kernel_rfl
theorem info_ins : (Tryd.prog.info? 45).map (fun i => (i.zero, i.size, i.bytes)) = some (some (.agg #[.int .i64 0, .int .i64 0, .int .i64 0, .int .i64 0, .int .i64 0]), 5, 40) := by kernel_rfl
theorem info_pla : (Tryd.prog.info? 68).map (fun i => (i.zero, i.size, i.bytes)) = some (some (.agg #[.int .i64 0, .int .i64 0]), 2, 16) := by kernel_rfl
theorem info_thr : (Tryd.prog.info? 42).map (fun i => (i.zero, i.size, i.bytes)) = some (some (.agg #[.string ⟨#[]⟩, .slice none 0 0, .slice none 0 0]), 3, 64) := by kernel_rfl
theorem info_strc : (Tryd.prog.info? 9).map (fun i => (i.zero, i.size, i.bytes)) = some (some (.string ⟨#[]⟩), 1, 16) := by kernel_rfl
/-- a list appended to nil: the rows with the new one -/
theorem AllRows.fresh {w w' : World} {base : Nat} {R : Ix → RowD} (h : AllRows w base R) (j : Ix) (hJ : (R j).A = none) {n c : Nat} {xs : List Value} {A : Option Addr} (ho : w'.ownsRow base (R j).e (R j).size (.slice A n c) n xs)
    (hg : w.grownBy w' (Value.slice none 0 0).ownBlock) (hb : (Value.slice A n c).ownBlock = (Value.slice none 0 0).ownBlock ∨ (Value.slice A n c).ownBlock = some w.heap.size) : AllRows w' base (upd R j ⟨(R j).e, (R j).size, A, n, c, xs⟩) :=
  h.app j (v := .slice none 0 0) (by rw [hJ]; rfl) ho hg hb
theorem size_prg : (Tryd.prog.info? 27).map (·.size) = some 5 := by kernel_rfl
theorem AllRows.base_ {w : World} {base base' : Nat} {R : Ix → RowD} (h : AllRows w base R) (hb : base' ≤ base) : AllRows w base' R := ⟨fun x => own_base (h.own x) hb, h.far⟩
def Prg.arr (p : Prg) : Array Value := #[.slice p.Av p.vars.length p.cv, .slice p.Ao p.vols.length p.co, .slice p.Al p.locks.length p.cl, .slice p.Ab p.bars.length p.cb, .slice p.At p.threads.length p.ct]
/-- where Copied stands: p in the first box, nothing in the second (the result's), q in the third, its lists in rows of the call's own -/
structure CopSt (w : World) (p q : Prg) (R : Ix → RowD) (W : World) : Prop where
  bel : Below w.heap.size w W
  hp : Blk W w.heap.size 27 p.arr
  hr : Blk W (w.heap.size + 1) 27 #[ns, ns, ns, ns, ns]
  hq : Blk W (w.heap.size + 1 + 1) 27 q.arr
  rows : AllRows W (w.heap.size + 1 + 1 + 1) R
theorem CopSt.putVars {w W W1 : World} {p q : Prg} (h : CopSt w p q (q.rows noE) W) (hA : q.Av = none) {A : Option Addr} {c : Nat} {l : List Nam} (ho : W1.ownsRow (w.heap.size + 1 + 1 + 1) 47 2 (.slice A l.length c) l.length (l.flatMap encN)) (hg : W.grownBy W1 ns.ownBlock)
    (hb : (Value.slice A l.length c).ownBlock = ns.ownBlock ∨ (Value.slice A l.length c).ownBlock = some W.heap.size) : CopSt w p {q with Av := A, cv := c, vars := l} (({q with Av := A, cv := c, vars := l} : Prg).rows noE) (W1.setCell ⟨w.heap.size + 1 + 1, 0, none⟩ (.slice A l.length c)) := by
  have hH := h.hq.lt
  have hr := h.rows.fresh .vars hA ho hg hb
  have e := rows_vars q noE false A c l
  rw [setE_no] at e
  have e2 : rowOf 47 2 encN A c l (xtra false mkN) = ⟨47, 2, A, l.length, c, l.flatMap encN⟩ := by simp [rowOf, xtra]
  rw [e2] at e
  refine ⟨(h.bel.grown hg h.bel.size (fun k e => by cases e)).setCell (by simp only; omega) _, ?_, ?_, ?_, ?_⟩
  · exact (h.hp.grown hg (by simp [Value.ownBlock])).far (by simp only; omega) _
  · exact (h.hr.grown hg (by simp [Value.ownBlock])).far (by simp only; omega) _
  · exact (h.hq.grown hg (by simp [Value.ownBlock])).set_ 0 _
  · rw [← e]
    exact hr.setFar (by simp only; omega) _
theorem CopSt.putVols {w W W1 : World} {p q : Prg} (h : CopSt w p q (q.rows noE) W) (hA : q.Ao = none) {A : Option Addr} {c : Nat} {l : List Nam} (ho : W1.ownsRow (w.heap.size + 1 + 1 + 1) 47 2 (.slice A l.length c) l.length (l.flatMap encN)) (hg : W.grownBy W1 ns.ownBlock)
    (hb : (Value.slice A l.length c).ownBlock = ns.ownBlock ∨ (Value.slice A l.length c).ownBlock = some W.heap.size) : CopSt w p {q with Ao := A, co := c, vols := l} (({q with Ao := A, co := c, vols := l} : Prg).rows noE) (W1.setCell ⟨w.heap.size + 1 + 1, 1, none⟩ (.slice A l.length c)) := by
  have hH := h.hq.lt
  have hr := h.rows.fresh .vols hA ho hg hb
  have e := rows_vols q noE false A c l
  rw [setE_no] at e
  have e2 : rowOf 47 2 encN A c l (xtra false mkN) = ⟨47, 2, A, l.length, c, l.flatMap encN⟩ := by simp [rowOf, xtra]
  rw [e2] at e
  refine ⟨(h.bel.grown hg h.bel.size (fun k e => by cases e)).setCell (by simp only; omega) _, ?_, ?_, ?_, ?_⟩
  · exact (h.hp.grown hg (by simp [Value.ownBlock])).far (by simp only; omega) _
  · exact (h.hr.grown hg (by simp [Value.ownBlock])).far (by simp only; omega) _
  · exact (h.hq.grown hg (by simp [Value.ownBlock])).set_ 1 _
  · rw [← e]
    exact hr.setFar (by simp only; omega) _
theorem CopSt.putLocks {w W W1 : World} {p q : Prg} (h : CopSt w p q (q.rows noE) W) (hA : q.Al = none) {A : Option Addr} {c : Nat} {l : List ByteArray} (ho : W1.ownsRow (w.heap.size + 1 + 1 + 1) 9 1 (.slice A l.length c) l.length (l.flatMap encS)) (hg : W.grownBy W1 ns.ownBlock)
    (hb : (Value.slice A l.length c).ownBlock = ns.ownBlock ∨ (Value.slice A l.length c).ownBlock = some W.heap.size) : CopSt w p {q with Al := A, cl := c, locks := l} (({q with Al := A, cl := c, locks := l} : Prg).rows noE) (W1.setCell ⟨w.heap.size + 1 + 1, 2, none⟩ (.slice A l.length c)) := by
  have hH := h.hq.lt
  have hr := h.rows.fresh .locks hA ho hg hb
  have e := rows_locks q noE false A c l
  rw [setE_no] at e
  have e2 : rowOf 9 1 encS A c l (xtra false mkS) = ⟨9, 1, A, l.length, c, l.flatMap encS⟩ := by simp [rowOf, xtra]
  rw [e2] at e
  refine ⟨(h.bel.grown hg h.bel.size (fun k e => by cases e)).setCell (by simp only; omega) _, ?_, ?_, ?_, ?_⟩
  · exact (h.hp.grown hg (by simp [Value.ownBlock])).far (by simp only; omega) _
  · exact (h.hr.grown hg (by simp [Value.ownBlock])).far (by simp only; omega) _
  · exact (h.hq.grown hg (by simp [Value.ownBlock])).set_ 2 _
  · rw [← e]
    exact hr.setFar (by simp only; omega) _
theorem CopSt.putBars {w W W1 : World} {p q : Prg} (h : CopSt w p q (q.rows noE) W) (hA : q.Ab = none) {A : Option Addr} {c : Nat} {l : List Nam} (ho : W1.ownsRow (w.heap.size + 1 + 1 + 1) 65 2 (.slice A l.length c) l.length (l.flatMap encN)) (hg : W.grownBy W1 ns.ownBlock)
    (hb : (Value.slice A l.length c).ownBlock = ns.ownBlock ∨ (Value.slice A l.length c).ownBlock = some W.heap.size) : CopSt w p {q with Ab := A, cb := c, bars := l} (({q with Ab := A, cb := c, bars := l} : Prg).rows noE) (W1.setCell ⟨w.heap.size + 1 + 1, 3, none⟩ (.slice A l.length c)) := by
  have hH := h.hq.lt
  have hr := h.rows.fresh .bars hA ho hg hb
  have e := rows_bars q noE false A c l
  rw [setE_no] at e
  have e2 : rowOf 65 2 encN A c l (xtra false mkN) = ⟨65, 2, A, l.length, c, l.flatMap encN⟩ := by simp [rowOf, xtra]
  rw [e2] at e
  refine ⟨(h.bel.grown hg h.bel.size (fun k e => by cases e)).setCell (by simp only; omega) _, ?_, ?_, ?_, ?_⟩
  · exact (h.hp.grown hg (by simp [Value.ownBlock])).far (by simp only; omega) _
  · exact (h.hr.grown hg (by simp [Value.ownBlock])).far (by simp only; omega) _
  · exact (h.hq.grown hg (by simp [Value.ownBlock])).set_ 3 _
  · rw [← e]
    exact hr.setFar (by simp only; omega) _
theorem CopSt.below {w W W1 : World} {p q : Prg} {R : Ix → RowD} (h : CopSt w p q R W) (hb : Below W.heap.size W W1) : CopSt w p q R W1 :=
  ⟨h.bel.trans (hb.mono h.bel.size), h.hp.below hb h.hp.lt, h.hr.below hb h.hr.lt, h.hq.below hb h.hq.lt, h.rows.below hb⟩
theorem AllRows.setOut {w : World} {base : Nat} {R : Ix → RowD} (h : AllRows w base R) {p : Addr} (hp : ∀ x a, (R x).A = some a → a.block ≠ p.block) (u : Value) : AllRows (w.setCell p u) base R := by
  refine ⟨fun x => World.ownsRow.kept (h.own x) (row := some p.block) ⟨rfl, rfl, rfl, by simp [World.setCell], fun i _ hne => Below.heap_setCell w p u i (fun e => hne (by rw [e]))⟩ ?_, h.far⟩
  rw [ownBlock_slice]
  cases hA : (R x).A with
  | none => exact .inl rfl
  | some a => exact .inr fun e => by injection e with e; exact hp x a hA e
/-- a thread's copy is being made in box b -/
structure ThrSt (w : World) (p q : Prg) (R : Ix → RowD) (b : Nat) (cs : Array Value) (W : World) : Prop where
  st : CopSt w p q R W
  box : Blk W b 42 cs
  out : ∀ x a, (R x).A = some a → a.block ≠ b
  hb : w.heap.size + 1 + 1 + 1 ≤ b
theorem CopSt.size3 {w W : World} {p q : Prg} {R : Ix → RowD} (h : CopSt w p q R W) : w.heap.size + 1 + 1 + 1 ≤ W.heap.size := by have := h.hq.lt; omega
theorem ThrSt.make {w W : World} {p q : Prg} {R : Ix → RowD} (h : CopSt w p q R W) (cs : Array Value) : ThrSt w p q R W.heap.size cs (W.alloc (.cells cs 42)) :=
  ⟨h.below ((Below.refl _ _).alloc (Nat.le_refl _) _), Blk.new _ _ _, fun x a ha => by have := ((h.rows.own x).lt ha).2; omega, h.size3⟩
theorem ThrSt.put {w W W1 : World} {p q : Prg} {R : Ix → RowD} {b : Nat} {cs : Array Value} (h : ThrSt w p q R b cs W) (j : Ix) (hJ : (R j).A = none) (i : Nat) {A : Option Addr} {n c : Nat} {xs : List Value}
    (ho : W1.ownsRow (w.heap.size + 1 + 1 + 1) (R j).e (R j).size (.slice A n c) n xs) (hg : W.grownBy W1 ns.ownBlock) (hb : (Value.slice A n c).ownBlock = ns.ownBlock ∨ (Value.slice A n c).ownBlock = some W.heap.size) :
    ThrSt w p q (upd R j ⟨(R j).e, (R j).size, A, n, c, xs⟩) b (cs.setIfInBounds i (.slice A n c)) (W1.setCell ⟨b, i, none⟩ (.slice A n c)) := by
  have hB := h.box.lt
  have hb3 := h.hb
  have hr := h.st.rows.fresh j hJ ho hg hb
  have hout : ∀ x a, (upd R j ⟨(R j).e, (R j).size, A, n, c, xs⟩ x).A = some a → a.block ≠ b := by
    intro x a ha
    by_cases hx : x = j
    · subst hx
      rw [upd_self] at ha
      have ha' : A = some a := ha
      rw [ha'] at hb
      rcases hb with hb | hb
      · cases hb
      · have hb : a.block = W.heap.size := by simpa [Value.ownBlock] using hb
        omega
    · rw [upd_other _ _ hx] at ha
      exact h.out x a ha
  have hH := h.st.hq.lt
  exact ⟨⟨(h.st.bel.grown hg h.st.bel.size (fun k e => by cases e)).setCell (by simp only; omega) _, (h.st.hp.grown hg (by simp [Value.ownBlock])).far (by simp only; omega) _, (h.st.hr.grown hg (by simp [Value.ownBlock])).far (by simp only; omega) _, (h.st.hq.grown hg (by simp [Value.ownBlock])).far (by simp only; omega) _, hr.setOut hout _⟩,
    (h.box.grown hg (by simp [Value.ownBlock])).set_ i _, hout, h.hb⟩
theorem rowOf_nil {α : Type} (e : TypeId) (size : Nat) (enc : α → List Value) (A : Option Addr) (c : Nat) (l : List α) : rowOf e size enc A c l [] = ⟨e, size, A, l.length, c, l.flatMap enc⟩ := by simp [rowOf]
theorem ThrSt.done {w W W1 : World} {p q : Prg} {t : Thr} {b n : Nat} {cs : Array Value} (hn : q.threads.length = n)
    (h : ThrSt w p q (upd (upd (q.rows noE) (.code n) ⟨45, 5, t.Ac, t.code.length, t.cc, t.code.flatMap encI⟩) (.pl n) ⟨68, 2, t.Ap, t.places.length, t.cp, t.places.flatMap encP⟩) b cs W)
    {g c : Nat} (ho : W1.ownsRow (w.heap.size + 1 + 1 + 1) 42 3 (.slice (some ⟨g, 0, none⟩) (n + 1) c) (n + 1) (q.threads.flatMap Thr.cells ++ t.cells)) (hg : W.grownBy W1 (Value.slice q.At n q.ct).ownBlock)
    (hat : (Value.slice q.At n q.ct).ownBlock = some g ∨ g = W.heap.size + 1) :
    CopSt w p {q with At := some ⟨g, 0, none⟩, ct := c, threads := q.threads ++ [t]} (({q with At := some ⟨g, 0, none⟩, ct := c, threads := q.threads ++ [t]} : Prg).rows noE) (W1.setCell ⟨w.heap.size + 1 + 1, 4, none⟩ (.slice (some ⟨g, 0, none⟩) (n + 1) c)) := by
  subst hn
  have hq := h.st.hq.lt
  have e := rows_more q t (some ⟨g, 0, none⟩) c
  simp only [rowOf_nil] at e
  have hthr : ∀ r1 r2, upd (upd (q.rows noE) (.code q.threads.length) r1) (.pl q.threads.length) r2 .threads = rowOf 42 3 Thr.cells q.At q.ct q.threads [] := fun _ _ => rfl
  have hlt : ∀ k, (Value.slice q.At q.threads.length q.ct).ownBlock = some k → w.heap.size + 1 + 1 + 1 ≤ k := by
    intro k hk
    have := h.st.rows.own .threads
    rw [hthr] at this
    rw [ownBlock_slice] at hk
    obtain ⟨a, ha, rfl⟩ := Option.map_eq_some_iff.1 hk
    exact (this.lt (a := a) ha).1
  have hr := h.st.rows.put (w' := W1) .threads ⟨42, 3, some ⟨g, 0, none⟩, q.threads.length + 1, c, q.threads.flatMap Thr.cells ++ t.cells⟩ ho (by rw [hthr]; rw [ownBlock_slice] at hg; exact hg) (by
    intro a ha
    rw [hthr]
    have ha : (⟨g, 0, none⟩ : Addr) = a := Option.some.inj ha
    subst ha
    rcases hat with hat | hat
    · rw [ownBlock_slice] at hat
      obtain ⟨a1, ha1, rfl⟩ := Option.map_eq_some_iff.1 hat
      exact .inl ⟨a1, ha1, rfl⟩
    · exact .inr (by simp only; omega))
  rw [show (⟨42, 3, some ⟨g, 0, none⟩, q.threads.length + 1, c, q.threads.flatMap Thr.cells ++ t.cells⟩ : RowD) = ⟨42, 3, some ⟨g, 0, none⟩, (q.threads ++ [t]).length, c, (q.threads ++ [t]).flatMap Thr.cells⟩ by simp, e] at hr
  refine ⟨(h.st.bel.grown hg h.st.bel.size (fun k hk => by have := hlt k hk; omega)).setCell (by simp only; omega) _, ?_, ?_, ?_, hr.setFar (by simp only; omega) _⟩
  · exact (h.st.hp.grown hg (fun e => by have := hlt _ e.symm; omega)).far (by simp only; omega) _
  · exact (h.st.hr.grown hg (fun e => by have := hlt _ e.symm; omega)).far (by simp only; omega) _
  · have := (h.st.hq.grown hg (fun e => by have := hlt _ e.symm; omega)).set_ 4 (.slice (some ⟨g, 0, none⟩) (q.threads.length + 1) c)
    simpa [Prg.arr] using this
set_option maxHeartbeats 4000000 in
set_option maxRecDepth 100000 in
theorem copied_any (p : Prg) (w : World) (hf : p.Fits) (hin : p.In w w.heap.size) :
    Calls Tryd.prog 12 #[p.val] w fun e w' => ∃ q : Prg, e = .returned q.val ∧ Below w.heap.size w w' ∧ q.Same p ∧ AllRows w' w.heap.size (q.rows noE) := by
  obtain ⟨i1, hi1, hz1, hs1, hb1⟩ := info_parts info_nam
  obtain ⟨i2, hi2, hz2, hs2, hb2⟩ := info_parts info_strc
  obtain ⟨i3, hi3, hz3, hs3, hb3⟩ := info_parts info_bar
  obtain ⟨i4, hi4, hz4, hs4, hb4⟩ := info_parts info_thr
  obtain ⟨i5, hi5, hz5, hs5, hb5⟩ := info_parts info_ins
  obtain ⟨i6, hi6, hz6, hs6, hb6⟩ := info_parts info_pla
  have HF := Lib.hid hf; clear hf
  have HI := Lib.hid hin; clear hin
  have l1 : p.vars.length * 24 ≤ 140737488351232 := HF.out.vars
  have l2 : p.vols.length * 24 ≤ 140737488351232 := HF.out.vols
  have l3 : p.locks.length * 16 ≤ 140737488351232 := HF.out.locks
  have l4 : p.bars.length * 24 ≤ 140737488351232 := HF.out.bars
  have l5 : p.threads.length * 64 ≤ 140737488351232 := HF.out.threads
  unfold Prg.val
  go_enter Tryd.func12, Tryd.ntmps12
  go_upto_region 2 with (fail)
  generalize hW : World.alloc _ _ = W0
  have HS0 : Hid (CopSt w p Prg.no (Prg.no.rows noE) W0) := by
    subst hW
    exact ⟨by go_grown, ((Blk.new w _ _).alloc _).alloc _, ((Blk.new _ _ _).alloc _).moved (by simp), (Blk.new _ _ _).moved (by simp), AllRows.no _ _⟩
  have hs0 : W0.heap.size = w.heap.size + 1 + 1 + 1 := by subst hW; simp
  clear hW
  have HRD : Hid (Reads W0 w.heap.size 2 p.Av p.vars.length (p.vars.flatMap encN)) := (HI.out.vars.below HS0.out.bel).reads (fun _ => rfl)
  have a0 : W0.cell? ⟨w.heap.size, 0, none⟩ = some (.slice p.Av p.vars.length p.cv) := HS0.out.hp.cell 0
  have b0 : W0.cell? ⟨w.heap.size + 1 + 1, 0, none⟩ = some (.slice none 0 0) := HS0.out.hq.cell 0
  have hlt0 : w.heap.size < W0.heap.size := HS0.out.hp.lt
  go_upto_region 3 with (at_builtin; go_must (refine wpList_append_any _ rfl (.tmp 7) (.tmp 9) 22 rfl (w.heap.size + 1 + 1 + 1) 47 i1 _ 2 24 Tryd.underlying22 hi1 hz1 hs1 hb1 rfl (by omega) ns 0 [] (by rfl) (World.ownsRow_nil _ _ _ _) w.heap.size p.Av p.vars.length p.cv (p.vars.flatMap encN) (by rfl) HRD.out (one_flat oneN _) (by simp only [maxLen]; omega) (by omega) (by have := HS0.out.hq.lt; omega) ?_); intro v w1 ho hg hat; obtain ⟨A1, c1, rfl⟩ := own_form ho; simp only [Nat.zero_add, List.nil_append] at ho hat; have e0 : w1.cell? ⟨w.heap.size + 1 + 1, 0, none⟩ = some (.slice none 0 0) := (HS0.out.hq.grown hg (by simp [Value.ownBlock])).cell 0; have f0 := (HS0.out.hq.grown hg (by simp [Value.ownBlock])).frozen 0; have HO := Lib.hid ho; have HG := Lib.hid hg; have HT := Lib.hid hat; clear ho hg hat)
  generalize hW : World.setCell _ _ _ = W1
  have HS1 : Hid (CopSt w p ⟨A1, c1, p.vars, none, 0, [], none, 0, [], none, 0, [], none, 0, []⟩ (Prg.rows ⟨A1, c1, p.vars, none, 0, [], none, 0, [], none, 0, [], none, 0, []⟩ noE) W1) := by
    subst hW
    exact HS0.out.putVars rfl HO.out HG.out HT.out
  clear hW a0 b0 hlt0 e0 f0 HO HG HT HRD
  have HRD : Hid (Reads W1 w.heap.size 2 p.Ao p.vols.length (p.vols.flatMap encN)) := (HI.out.vols.below HS1.out.bel).reads (fun _ => rfl)
  have a1 : W1.cell? ⟨w.heap.size, 1, none⟩ = some (.slice p.Ao p.vols.length p.co) := HS1.out.hp.cell 1
  have b1 : W1.cell? ⟨w.heap.size + 1 + 1, 1, none⟩ = some (.slice none 0 0) := HS1.out.hq.cell 1
  have hlt1 : w.heap.size < W1.heap.size := HS1.out.hp.lt
  go_upto_region 4 with (at_builtin; go_must (refine wpList_append_any _ rfl (.tmp 13) (.tmp 15) 22 rfl (w.heap.size + 1 + 1 + 1) 47 i1 _ 2 24 Tryd.underlying22 hi1 hz1 hs1 hb1 rfl (by omega) ns 0 [] (by rfl) (World.ownsRow_nil _ _ _ _) w.heap.size p.Ao p.vols.length p.co (p.vols.flatMap encN) (by rfl) HRD.out (one_flat oneN _) (by simp only [maxLen]; omega) (by omega) (by have := HS1.out.hq.lt; omega) ?_); intro v w1 ho hg hat; obtain ⟨A2, c2, rfl⟩ := own_form ho; simp only [Nat.zero_add, List.nil_append] at ho hat; have e1 : w1.cell? ⟨w.heap.size + 1 + 1, 1, none⟩ = some (.slice none 0 0) := (HS1.out.hq.grown hg (by simp [Value.ownBlock])).cell 1; have f1 := (HS1.out.hq.grown hg (by simp [Value.ownBlock])).frozen 1; have HO := Lib.hid ho; have HG := Lib.hid hg; have HT := Lib.hid hat; clear ho hg hat)
  generalize hW : World.setCell _ _ _ = W2
  have HS2 : Hid (CopSt w p ⟨A1, c1, p.vars, A2, c2, p.vols, none, 0, [], none, 0, [], none, 0, []⟩ (Prg.rows ⟨A1, c1, p.vars, A2, c2, p.vols, none, 0, [], none, 0, [], none, 0, []⟩ noE) W2) := by
    subst hW
    exact HS1.out.putVols rfl HO.out HG.out HT.out
  clear hW a1 b1 hlt1 e1 f1 HO HG HT HRD
  have HRD : Hid (Reads W2 w.heap.size 1 p.Al p.locks.length (p.locks.flatMap encS)) := (HI.out.locks.below HS2.out.bel).reads (fun _ => rfl)
  have a2 : W2.cell? ⟨w.heap.size, 2, none⟩ = some (.slice p.Al p.locks.length p.cl) := HS2.out.hp.cell 2
  have b2 : W2.cell? ⟨w.heap.size + 1 + 1, 2, none⟩ = some (.slice none 0 0) := HS2.out.hq.cell 2
  have hlt2 : w.heap.size < W2.heap.size := HS2.out.hp.lt
  go_upto_region 5 with (at_builtin; go_must (refine wpList_append_any _ rfl (.tmp 19) (.tmp 21) 23 rfl (w.heap.size + 1 + 1 + 1) 9 i2 _ 1 16 Tryd.underlying23 hi2 hz2 hs2 hb2 rfl (by omega) ns 0 [] (by rfl) (World.ownsRow_nil _ _ _ _) w.heap.size p.Al p.locks.length p.cl (p.locks.flatMap encS) (by rfl) HRD.out (one_flat oneSx _) (by simp only [maxLen]; omega) (by omega) (by have := HS2.out.hq.lt; omega) ?_); intro v w1 ho hg hat; obtain ⟨A3, c3, rfl⟩ := own_form ho; simp only [Nat.zero_add, List.nil_append] at ho hat; have e2 : w1.cell? ⟨w.heap.size + 1 + 1, 2, none⟩ = some (.slice none 0 0) := (HS2.out.hq.grown hg (by simp [Value.ownBlock])).cell 2; have f2 := (HS2.out.hq.grown hg (by simp [Value.ownBlock])).frozen 2; have HO := Lib.hid ho; have HG := Lib.hid hg; have HT := Lib.hid hat; clear ho hg hat)
  generalize hW : World.setCell _ _ _ = W3
  have HS3 : Hid (CopSt w p ⟨A1, c1, p.vars, A2, c2, p.vols, A3, c3, p.locks, none, 0, [], none, 0, []⟩ (Prg.rows ⟨A1, c1, p.vars, A2, c2, p.vols, A3, c3, p.locks, none, 0, [], none, 0, []⟩ noE) W3) := by
    subst hW
    exact HS2.out.putLocks rfl HO.out HG.out HT.out
  clear hW a2 b2 hlt2 e2 f2 HO HG HT HRD
  have HRD : Hid (Reads W3 w.heap.size 2 p.Ab p.bars.length (p.bars.flatMap encN)) := (HI.out.bars.below HS3.out.bel).reads (fun _ => rfl)
  have a3 : W3.cell? ⟨w.heap.size, 3, none⟩ = some (.slice p.Ab p.bars.length p.cb) := HS3.out.hp.cell 3
  have b3 : W3.cell? ⟨w.heap.size + 1 + 1, 3, none⟩ = some (.slice none 0 0) := HS3.out.hq.cell 3
  have hlt3 : w.heap.size < W3.heap.size := HS3.out.hp.lt
  go_upto_region 6 with (at_builtin; go_must (refine wpList_append_any _ rfl (.tmp 25) (.tmp 27) 24 rfl (w.heap.size + 1 + 1 + 1) 65 i3 _ 2 24 Tryd.underlying24 hi3 hz3 hs3 hb3 rfl (by omega) ns 0 [] (by rfl) (World.ownsRow_nil _ _ _ _) w.heap.size p.Ab p.bars.length p.cb (p.bars.flatMap encN) (by rfl) HRD.out (one_flat oneN _) (by simp only [maxLen]; omega) (by omega) (by have := HS3.out.hq.lt; omega) ?_); intro v w1 ho hg hat; obtain ⟨A4, c4, rfl⟩ := own_form ho; simp only [Nat.zero_add, List.nil_append] at ho hat; have e3 : w1.cell? ⟨w.heap.size + 1 + 1, 3, none⟩ = some (.slice none 0 0) := (HS3.out.hq.grown hg (by simp [Value.ownBlock])).cell 3; have f3 := (HS3.out.hq.grown hg (by simp [Value.ownBlock])).frozen 3; have HO := Lib.hid ho; have HG := Lib.hid hg; have HT := Lib.hid hat; clear ho hg hat)
  generalize hW : World.setCell _ _ _ = W4
  have HS4 : Hid (CopSt w p ⟨A1, c1, p.vars, A2, c2, p.vols, A3, c3, p.locks, A4, c4, p.bars, none, 0, []⟩ (Prg.rows ⟨A1, c1, p.vars, A2, c2, p.vols, A3, c3, p.locks, A4, c4, p.bars, none, 0, []⟩ noE) W4) := by
    subst hW
    exact HS3.out.putBars rfl HO.out HG.out HT.out
  clear hW a3 b3 hlt3 e3 f3 HO HG HT HRD
  clear HS0 HS1 HS2 HS3 hs0
  go_wp2_with fail
  go_loopw [4] (fun i wr => ∃ (k : Nat) (l : List Thr) (A : Option Addr) (c : Nat), k ≤ p.threads.length ∧ i = .int .i64 k ∧ l.length = k ∧ l.map Thr.bare = (p.threads.take k).map Thr.bare ∧ CopSt w p ⟨A1, c1, p.vars, A2, c2, p.vols, A3, c3, p.locks, A4, c4, p.bars, A, c, l⟩ (Prg.rows ⟨A1, c1, p.vars, A2, c2, p.vols, A3, c3, p.locks, A4, c4, p.bars, A, c, l⟩ noE) wr) (fun i _ => p.threads.length - (intOf i).toNat)
  case atStart => exact ⟨0, [], none, 0, by omega, rfl, rfl, rfl, HS4.out⟩
  case round =>
    clear HS4
    obtain ⟨k, l, A5, c5, hk, rfl, hlk, hbare, hst⟩ := hrel
    have HST := Lib.hid hst; clear hst
    have HLK := Lib.hid hlk; clear hlk
    have HBARE := Lib.hid hbare; clear hbare
    have a4 : wr.cell? ⟨w.heap.size, 4, none⟩ = some (.slice p.At p.threads.length p.ct) := HST.out.hp.cell 4
    have hwl : w.heap.size + 1 + 1 + 1 ≤ wr.heap.size := HST.out.size3
    by_cases hlt : k < p.threads.length
    · obtain ⟨x, hx⟩ := get_some hlt
      obtain ⟨g, off, hA, hgB, t0, t1, t2⟩ := ((HI.out.threads).below HST.out.bel).thr hx
      have HX := Lib.hid hx
      rw [hA] at a4 ⊢
      clear hx hA
      go_upto_region 10 with (fail)
      generalize hW : World.alloc _ _ = X0
      have HT0 : Hid (ThrSt w p ⟨A1, c1, p.vars, A2, c2, p.vols, A3, c3, p.locks, A4, c4, p.bars, A5, c5, l⟩ (Prg.rows ⟨A1, c1, p.vars, A2, c2, p.vols, A3, c3, p.locks, A4, c4, p.bars, A5, c5, l⟩ noE) wr.heap.size #[.string x.name, .slice x.Ac x.code.length x.cc, .slice x.Ap x.places.length x.cp] X0) := by
        subst hW
        exact ThrSt.make HST.out _
      have hx0 : X0.heap.size = wr.heap.size + 1 := by subst hW; simp
      clear hW a4 t0 t1 t2
      have hmem : x ∈ p.threads := get_mem HX.out
      have lc : x.code.length * 40 ≤ 140737488355328 := (HF.out.fthreads x hmem).code
      have lp : x.places.length * 16 ≤ 140737488355328 := (HF.out.fthreads x hmem).places
      have HC : Hid (Reads X0 w.heap.size 5 x.Ac x.code.length (x.code.flatMap encI)) := ((HI.out.thr x hmem).code.below HT0.out.st.bel).reads (fun _ => rfl)
      have a1 : X0.cell? ⟨wr.heap.size, 1, none⟩ = some (.slice x.Ac x.code.length x.cc) := HT0.out.box.cell 1
      have HM := Lib.hid hmem; clear hmem
      go_upto_region 11 with (at_builtin; go_must (refine wpList_append_any _ rfl (.const (.slice none 0 0)) (.tmp 43) 39 rfl (w.heap.size + 1 + 1 + 1) 45 i5 _ 5 40 Tryd.underlying39 hi5 hz5 hs5 hb5 rfl (by omega) ns 0 [] (by rfl) (World.ownsRow_nil _ _ _ _) w.heap.size x.Ac x.code.length x.cc (x.code.flatMap encI) (by rfl) HC.out (one_flat oneI _) (by simp only [maxLen]; omega) (by omega) (by omega) ?_); intro v x1 ho hg hat; obtain ⟨A6, c6, rfl⟩ := own_form ho; simp only [Nat.zero_add, List.nil_append] at ho hat; have e1 : x1.cell? ⟨wr.heap.size, 1, none⟩ = some (.slice x.Ac x.code.length x.cc) := (HT0.out.box.grown hg (by simp [Value.ownBlock])).cell 1; have f1 := (HT0.out.box.grown hg (by simp [Value.ownBlock])).frozen 1; have HO := Lib.hid ho; have HG := Lib.hid hg; have HT := Lib.hid hat; clear ho hg hat)
      generalize hW : World.setCell _ _ _ = X1
      have hcn : (Prg.rows ⟨A1, c1, p.vars, A2, c2, p.vols, A3, c3, p.locks, A4, c4, p.bars, A5, c5, l⟩ noE (.code k)) = RowD.none_ 45 5 := by
        have : (Prg.rows ⟨A1, c1, p.vars, A2, c2, p.vols, A3, c3, p.locks, A4, c4, p.bars, A5, c5, l⟩ noE (.code k)) = match l[k]? with | some t => rowOf 45 5 encI t.Ac t.cc t.code (xtra (noE (.code k)) mkI) | none => RowD.none_ 45 5 := rfl
        rw [this, List.getElem?_eq_none (by have := HLK.out; omega)]
      have HT1 : Hid (ThrSt w p ⟨A1, c1, p.vars, A2, c2, p.vols, A3, c3, p.locks, A4, c4, p.bars, A5, c5, l⟩ (upd (Prg.rows ⟨A1, c1, p.vars, A2, c2, p.vols, A3, c3, p.locks, A4, c4, p.bars, A5, c5, l⟩ noE) (.code k) ⟨45, 5, A6, x.code.length, c6, x.code.flatMap encI⟩) wr.heap.size #[.string x.name, .slice A6 x.code.length c6, .slice x.Ap x.places.length x.cp] X1) := by
        subst hW
        have h1 := HT0.out.put (.code k) (by rw [hcn]; rfl) 1 (by rw [hcn]; exact HO.out) HG.out HT.out
        rw [hcn] at h1
        exact h1
      have hx1 : wr.heap.size < X1.heap.size := HT1.out.box.lt
      clear hW hcn a1 e1 f1 HO HG HT HC HT0 hx0
      have HC : Hid (Reads X1 w.heap.size 2 x.Ap x.places.length (x.places.flatMap encP)) := ((HI.out.thr x HM.out).places.below HT1.out.st.bel).reads (fun _ => rfl)
      have a1 : X1.cell? ⟨wr.heap.size, 2, none⟩ = some (.slice x.Ap x.places.length x.cp) := HT1.out.box.cell 2
      go_upto_region 12 with (at_builtin; go_must (refine wpList_append_any _ rfl (.const (.slice none 0 0)) (.tmp 47) 40 rfl (w.heap.size + 1 + 1 + 1) 68 i6 _ 2 16 Tryd.underlying40 hi6 hz6 hs6 hb6 rfl (by omega) ns 0 [] (by rfl) (World.ownsRow_nil _ _ _ _) w.heap.size x.Ap x.places.length x.cp (x.places.flatMap encP) (by rfl) HC.out (one_flat oneP _) (by simp only [maxLen]; omega) (by omega) (by omega) ?_); intro v x1 ho hg hat; obtain ⟨A7, c7, rfl⟩ := own_form ho; simp only [Nat.zero_add, List.nil_append] at ho hat; have e1 : x1.cell? ⟨wr.heap.size, 2, none⟩ = some (.slice x.Ap x.places.length x.cp) := (HT1.out.box.grown hg (by simp [Value.ownBlock])).cell 2; have f1 := (HT1.out.box.grown hg (by simp [Value.ownBlock])).frozen 2; have HO := Lib.hid ho; have HG := Lib.hid hg; have HT := Lib.hid hat; clear ho hg hat)
      generalize hW : World.setCell _ _ _ = X2
      have hcn : (Prg.rows ⟨A1, c1, p.vars, A2, c2, p.vols, A3, c3, p.locks, A4, c4, p.bars, A5, c5, l⟩ noE (.pl k)) = RowD.none_ 68 2 := by
        have : (Prg.rows ⟨A1, c1, p.vars, A2, c2, p.vols, A3, c3, p.locks, A4, c4, p.bars, A5, c5, l⟩ noE (.pl k)) = match l[k]? with | some t => rowOf 68 2 encP t.Ap t.cp t.places (xtra (noE (.pl k)) mkP) | none => RowD.none_ 68 2 := rfl
        rw [this, List.getElem?_eq_none (by have := HLK.out; omega)]
      have HT2 : Hid (ThrSt w p ⟨A1, c1, p.vars, A2, c2, p.vols, A3, c3, p.locks, A4, c4, p.bars, A5, c5, l⟩ (upd (upd (Prg.rows ⟨A1, c1, p.vars, A2, c2, p.vols, A3, c3, p.locks, A4, c4, p.bars, A5, c5, l⟩ noE) (.code k) ⟨45, 5, A6, x.code.length, c6, x.code.flatMap encI⟩) (.pl k) ⟨68, 2, A7, x.places.length, c7, x.places.flatMap encP⟩) wr.heap.size #[.string x.name, .slice A6 x.code.length c6, .slice A7 x.places.length c7] X2) := by
        subst hW
        have h0 : (upd (Prg.rows ⟨A1, c1, p.vars, A2, c2, p.vols, A3, c3, p.locks, A4, c4, p.bars, A5, c5, l⟩ noE) (.code k) ⟨45, 5, A6, x.code.length, c6, x.code.flatMap encI⟩) (.pl k) = RowD.none_ 68 2 := (upd_other _ _ (by simp)).trans hcn
        have h1 := HT1.out.put (.pl k) (by rw [h0]; rfl) 2 (by rw [h0]; exact HO.out) HG.out HT.out
        rw [h0] at h1
        exact h1
      have hx2 : wr.heap.size < X2.heap.size := HT2.out.box.lt
      clear hW hcn a1 e1 f1 HO HG HT HC HT1 hx1
      have hk5 := HLK.out
      have a1 : X2.cell? ⟨w.heap.size + 1 + 1, 4, none⟩ = some (.slice A5 k c5) := by rw [← hk5]; exact HT2.out.st.hq.cell 4
      have b0 : X2.cell? ⟨wr.heap.size, 0, none⟩ = some (.string x.name) := HT2.out.box.cell 0
      have b1 : X2.cell? ⟨wr.heap.size, 1, none⟩ = some (.slice A6 x.code.length c6) := HT2.out.box.cell 1
      have b2 : X2.cell? ⟨wr.heap.size, 2, none⟩ = some (.slice A7 x.places.length c7) := HT2.out.box.cell 2
      have hw2 : w.heap.size + 1 + 1 < X2.heap.size := HT2.out.st.hq.lt
      clear hk5
      have HOWN : Hid (X2.ownsRow (w.heap.size + 1 + 1 + 1) 42 3 (.slice A5 k c5) k (l.flatMap Thr.cells)) := by
        have h1 := HT2.out.st.rows.own .threads
        have h2 : upd (upd (Prg.rows ⟨A1, c1, p.vars, A2, c2, p.vols, A3, c3, p.locks, A4, c4, p.bars, A5, c5, l⟩ noE) (.code k) ⟨45, 5, A6, x.code.length, c6, x.code.flatMap encI⟩) (.pl k) ⟨68, 2, A7, x.places.length, c7, x.places.flatMap encP⟩ .threads = rowOf 42 3 Thr.cells A5 c5 l [] := rfl
        rw [h2, rowOf_nil] at h1
        have h3 : X2.ownsRow (w.heap.size + 1 + 1 + 1) 42 3 (.slice A5 l.length c5) l.length (l.flatMap Thr.cells) := h1
        rw [HLK.out] at h3
        exact h3
      go_wp2_with (at_builtin; go_must (refine wpList_append_one rfl (.tmp 51) (.tmp 53) _ rfl _ _ (w.heap.size + 1 + 1 + 1) 42 i4 _ 3 64 Tryd.underlying25 hi4 hz4 hs4 hb4 rfl (by omega) (.slice A5 k c5) k _ (by rfl) _ (by rfl) (by simp) (by rfl) (by simp [Value.oneCell']) (by exact HOWN.out) (by simp only [maxLen]; omega) (by omega) (by omega) ?_); intro g1 k1 w3 hown1 hg1 hat1 hbg1 hgl1; have e2 : w3.cell? ⟨w.heap.size + 1 + 1, 4, none⟩ = some (.slice A5 k c5) := ((HT2.out.st.hq.grown hg1 (own_blk_lt HOWN.out (by omega))).cell 4).trans (by have := HLK.out; subst this; rfl); have f2 := (HT2.out.st.hq.grown hg1 (own_blk_lt HOWN.out (by omega))).frozen 4; have HO := Lib.hid hown1; have HG := Lib.hid hg1; have HT := Lib.hid hat1; clear hown1 hg1 hat1)
      go_roundw
      case rel =>
        refine ⟨k + 1, l ++ [⟨x.name, A6, c6, x.code, A7, c7, x.places⟩], _, _, by omega, by go_num, by simp [HLK.out], ?_, ThrSt.done (q := ⟨A1, c1, p.vars, A2, c2, p.vols, A3, c3, p.locks, A4, c4, p.bars, A5, c5, l⟩) (t := ⟨x.name, A6, c6, x.code, A7, c7, x.places⟩) HLK.out HT2.out HO.out HG.out HT.out⟩
        rw [List.take_add_one, HX.out]
        simp [HBARE.out, Thr.bare]
      case measure => simp [intOf]; omega
    · obtain rfl : k = p.threads.length := by omega
      clear hk hlt
      obtain ⟨X0, rfl⟩ : ∃ x : World, x = wr := ⟨_, rfl⟩
      have hq0 : X0.cell? ⟨w.heap.size + 1 + 1, 0, none⟩ = some (.slice A1 p.vars.length c1) := HST.out.hq.cell 0
      have hq1 : X0.cell? ⟨w.heap.size + 1 + 1, 1, none⟩ = some (.slice A2 p.vols.length c2) := HST.out.hq.cell 1
      have hq2 : X0.cell? ⟨w.heap.size + 1 + 1, 2, none⟩ = some (.slice A3 p.locks.length c3) := HST.out.hq.cell 2
      have hq3 : X0.cell? ⟨w.heap.size + 1 + 1, 3, none⟩ = some (.slice A4 p.bars.length c4) := HST.out.hq.cell 3
      have hq4 : X0.cell? ⟨w.heap.size + 1 + 1, 4, none⟩ = some (.slice A5 p.threads.length c5) := (HST.out.hq.cell 4).trans (by rw [← HLK.out]; rfl)
      have r0 : X0.cell? ⟨w.heap.size + 1, 0, none⟩ = some ns := HST.out.hr.cell 0
      have r1 : X0.cell? ⟨w.heap.size + 1, 1, none⟩ = some ns := HST.out.hr.cell 1
      have r2 : X0.cell? ⟨w.heap.size + 1, 2, none⟩ = some ns := HST.out.hr.cell 2
      have r3 : X0.cell? ⟨w.heap.size + 1, 3, none⟩ = some ns := HST.out.hr.cell 3
      have r4 : X0.cell? ⟨w.heap.size + 1, 4, none⟩ = some ns := HST.out.hr.cell 4
      have f0 := HST.out.hr.frozen 0
      have f1 := HST.out.hr.frozen 1
      have f2 := HST.out.hr.frozen 2
      have f3 := HST.out.hr.frozen 3
      have f4 := HST.out.hr.frozen 4
      have hlr := HST.out.hr.lt
      have hlq := HST.out.hq.lt
      go_wp2_with fail
      try simp only [Exit.inBlock, Exit.then]
      refine bodyPost_ret (v := Prg.val ⟨A1, c1, p.vars, A2, c2, p.vols, A3, c3, p.locks, A4, c4, p.bars, A5, c5, l⟩) ?_ rfl ?_
      · have hlen := HLK.out
        have he : Prg.val ⟨A1, c1, p.vars, A2, c2, p.vols, A3, c3, p.locks, A4, c4, p.bars, A5, c5, l⟩ = .agg #[.slice A1 p.vars.length c1, .slice A2 p.vols.length c2, .slice A3 p.locks.length c3, .slice A4 p.bars.length c4, .slice A5 p.threads.length c5] := by unfold Prg.val; rw [hlen]
        rw [he]
        exact results_cell_row rfl _ _ (w.heap.size + 1) 27 _ (0, 0) _ rfl (((((HST.out.hr.set_ 0 _).set_ 1 _).set_ 2 _).set_ 3 _).set_ 4 _) Tryd.underlying27 rfl size_prg
      refine ⟨_, rfl, ?_, ⟨rfl, rfl, rfl, rfl, ?_⟩, ?_⟩
      · exact ((((HST.out.bel.setCell (by simp) _).setCell (by simp) _).setCell (by simp) _).setCell (by simp) _).setCell (by simp) _
      · rw [HBARE.out, List.take_of_length_le (Nat.le_refl _)]
      · have h1 := ((((HST.out.rows.setFar (p := ⟨w.heap.size + 1, 0, none⟩) (by simp only; omega) (.slice A1 p.vars.length c1)).setFar (p := ⟨w.heap.size + 1, 1, none⟩) (by simp only; omega) (.slice A2 p.vols.length c2)).setFar (p := ⟨w.heap.size + 1, 2, none⟩) (by simp only; omega) (.slice A3 p.locks.length c3)).setFar (p := ⟨w.heap.size + 1, 3, none⟩) (by simp only; omega) (.slice A4 p.bars.length c4)).setFar (p := ⟨w.heap.size + 1, 4, none⟩) (by simp only; omega) (.slice A5 p.threads.length c5)
        exact h1.base_ (by omega)
end Go.Proofs.YtknnbckmdfnmaaaDoor
