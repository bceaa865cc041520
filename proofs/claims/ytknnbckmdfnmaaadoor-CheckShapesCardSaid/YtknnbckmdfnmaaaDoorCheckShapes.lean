/- Contract of abreastlaw11.CheckShapes: true. Conditions: the program's data lies in memory and fits; the package variables that parse's numbers read. -/
import Derived.Test.YtknnbckmdfnmaaaDoorRefShape
import Derived.Test.YtknnbckmdfnmaaaDoorSameShape
import Derived.Test.YtknnbckmdfnmaaaDoorLeft
import Derived.Test.YtknnbckmdfnmaaaDoorLives
import Derived.Test.YtknnbckmdfnmaaaDoorPre
import Derived.Deep.RegionHeld3
namespace Go.Proofs.YtknnbckmdfnmaaaDoor
open Go.RowKit

theorem bcell {W w1 : World} (hb : Below W.heap.size W w1) : (∀ b o, b < W.heap.size → w1.cell? ⟨b, o, none⟩ = W.cell? ⟨b, o, none⟩) ∧ (∀ b o, b < W.heap.size → w1.frozen? ⟨b, o, none⟩ = W.frozen? ⟨b, o, none⟩) :=
  ⟨fun b o h => hb.cell (p := ⟨b, o, none⟩) h, fun b o h => hb.frozen (p := ⟨b, o, none⟩) h⟩
theorem shape_len (p : Prg) (hf : p.Fits) : p.shape.parties.length * 24 ≤ 140737488351232 := by
  unfold Prg.shape
  split
  · simpa using hf.bars
  · simp
def Shp.arr (s : Shp) (v : Value) : Array Value := #[.int .i64 (s.threads : Int), .int .i64 (s.vars : Int), .int .i64 (s.vols : Int), .int .i64 (s.locks : Int), v]
/-- what stays once q and the wanted shape are made -/
structure Kept (w : World) (p q : Prg) (s : Shp) (bq bt : Nat) (Aw : Option Addr) (cw : Nat) (W : World) : Prop where
  bel : Below w.heap.size w W
  hp : Blk W w.heap.size 27 p.arr
  hq : Blk W bq 27 q.arr
  ht : Blk W bt 52 (s.arr (.slice Aw s.parties.length cw))
  rows : AllRows W w.heap.size (q.rows fun _ => true)
  want : W.ownsRow w.heap.size 3 1 (.slice Aw s.parties.length cw) s.parties.length (s.parties.flatMap encZ)
theorem own_below {w w' : World} {base : Nat} {e : TypeId} {size n : Nat} {v : Value} {xs : List Value} (h : w.ownsRow base e size v n xs) (hb : Below w.heap.size w w') : w'.ownsRow base e size v n xs :=
  h.kept (only_of_below hb none) (by cases v.ownBlock <;> simp)
theorem Kept.below {w W W1 : World} {p q : Prg} {s : Shp} {bq bt cw : Nat} {Aw : Option Addr} (h : Kept w p q s bq bt Aw cw W) (hb : Below W.heap.size W W1) : Kept w p q s bq bt Aw cw W1 :=
  ⟨h.bel.trans (hb.mono h.bel.size), h.hp.below hb h.hp.lt, h.hq.below hb h.hq.lt, h.ht.below hb h.ht.lt, h.rows.below hb, own_below h.want hb⟩
theorem Kept.rd {w W : World} {p q : Prg} {s : Shp} {bq bt cw : Nat} {Aw : Option Addr} (h : Kept w p q s bq bt Aw cw W) : RdL encZ 1 W W.heap.size Aw s.parties := by
  obtain ⟨A, c, hv, _, hr⟩ := RdL.of_own (enc := encZ) (fun _ => rfl) rfl h.want
  injection hv with hv
  subst hv
  exact hr
theorem own_rd {W : World} {base c : Nat} {A : Option Addr} {l : List Int} (h : W.ownsRow base 3 1 (.slice A l.length c) l.length (l.flatMap encZ)) : RdL encZ 1 W W.heap.size A l := by
  obtain ⟨A, c, hv, _, hr⟩ := RdL.of_own (enc := encZ) (fun _ => rfl) rfl h
  injection hv with hv
  subst hv
  exact hr
/-- the two shapes' boxes and their lists' rows, while the lists are written over -/
structure ShSt (W2 : World) (s : Shp) (ba bb : Nat) (Aa : Option Addr) (ca : Nat) (Ab : Option Addr) (cb : Nat) (xa xb : List Value) (W : World) : Prop where
  bel : Below W2.heap.size W2 W
  ha : Blk W ba 52 (s.arr (.slice Aa s.parties.length ca))
  hb : Blk W bb 52 (s.arr (.slice Ab s.parties.length cb))
  oa : W.ownsRow W2.heap.size 3 1 (.slice Aa s.parties.length ca) s.parties.length xa
  ob : W.ownsRow W2.heap.size 3 1 (.slice Ab s.parties.length cb) s.parties.length xb
theorem ShSt.swap {W2 W : World} {s : Shp} {ba bb ca cb : Nat} {Aa Ab : Option Addr} {xa xb : List Value} (h : ShSt W2 s ba bb Aa ca Ab cb xa xb W) : ShSt W2 s bb ba Ab cb Aa ca xb xa W := ⟨h.bel, h.hb, h.ha, h.ob, h.oa⟩
theorem ShSt.set {W2 W : World} {s : Shp} {ba bb ca cb ga : Nat} {Aa Ab : Option Addr} {xa xb : List Value} (h : ShSt W2 s ba bb Aa ca Ab cb xa xb W) (hA : Aa = some ⟨ga, 0, none⟩) (hap : ∀ x y, Aa = some x → Ab = some y → x.block ≠ y.block) (i : Nat) (u : Value) :
    ShSt W2 s ba bb Aa ca Ab cb (xa.set i u) xb (W.setCell ⟨ga, i, none⟩ u) := by
  have hge := (h.oa.lt ga (by rw [hA]; rfl)).1
  have h1 : ba ≠ ga := fun e => own_blk_ne h.oa h.ha (by decide) (by rw [hA, e]; rfl)
  have h2 : bb ≠ ga := fun e => own_blk_ne h.oa h.hb (by decide) (by rw [hA, e]; rfl)
  refine ⟨h.bel.setCell hge _, h.ha.far (p := ⟨ga, i, none⟩) h1 _, h.hb.far (p := ⟨ga, i, none⟩) h2 _, ?_, ?_⟩
  · subst hA
    exact own_set h.oa i u
  · refine ownsRow_setCell_other h.ob ?_ _
    intro e
    rw [ownBlock_slice] at e
    obtain ⟨y, hy, hb⟩ := Option.map_eq_some_iff.1 e
    exact hap _ y hA hy hb.symm
/-- the two lists grow; what the shapes' own lists hold stays -/
structure LmSt (W2 : World) (s : Shp) (ba bb : Nat) (Aa : Option Addr) (ca : Nat) (Ab : Option Addr) (cb : Nat) (va vb : Int) (Al : Option Addr) (cl ml : Nat) (Am : Option Addr) (cm mm : Nat) (W : World) : Prop where
  bel : Below W2.heap.size W2 W
  ha : Blk W ba 52 (s.arr (.slice Aa s.parties.length ca))
  hb : Blk W bb 52 (s.arr (.slice Ab s.parties.length cb))
  ol : W.ownsRow W2.heap.size 3 1 (.slice Al ml cl) ml (List.replicate ml (.int .i64 va))
  om : W.ownsRow W2.heap.size 3 1 (.slice Am mm cm) mm (List.replicate mm (.int .i64 vb))
  nl : s.parties.length ≤ ml
  nm : s.parties.length ≤ mm
  ap : ∀ x y, Al = some x → Am = some y → x.block ≠ y.block
  ra : ∀ x, Aa = some x → x.block < W.heap.size ∧ (∀ i, i < s.parties.length → W.cell? ⟨x.block, i, none⟩ = some (.int .i64 va)) ∧ ∀ y, Am = some y → y.block ≠ x.block
  rb : ∀ x, Ab = some x → x.block < W.heap.size ∧ (∀ i, i < s.parties.length → W.cell? ⟨x.block, i, none⟩ = some (.int .i64 vb)) ∧ ∀ y, Al = some y → y.block ≠ x.block
section
variable {W2 W W1 : World} {s : Shp} {ba bb ca cb : Nat} {Aa Ab : Option Addr} {va vb : Int} {Al Am : Option Addr} {cl ml cm mm : Nat}
theorem LmSt.swap (h : LmSt W2 s ba bb Aa ca Ab cb va vb Al cl ml Am cm mm W) : LmSt W2 s bb ba Ab cb Aa ca vb va Am cm mm Al cl ml W :=
  ⟨h.bel, h.hb, h.ha, h.om, h.ol, h.nm, h.nl, fun x y hx hy e => h.ap y x hy hx e.symm, h.rb, h.ra⟩
theorem LmSt.app (h : LmSt W2 s ba bb Aa ca Ab cb va vb Al cl ml Am cm mm W) {g c : Nat} (ho : W1.ownsRow W2.heap.size 3 1 (.slice (some ⟨g, 0, none⟩) (ml + 1) c) (ml + 1) (List.replicate ml (.int .i64 va) ++ [.int .i64 va]))
    (hg : W.grownBy W1 (Value.slice Al ml cl).ownBlock) (hat : (Value.slice Al ml cl).ownBlock = some g ∨ g = W.heap.size + 1) (hpre : ∀ g j, (Value.slice Al ml cl).ownBlock = some g → j < ml * 1 → W1.cell? ⟨g, j, none⟩ = W.cell? ⟨g, j, none⟩) :
    LmSt W2 s ba bb Aa ca Ab cb va vb (some ⟨g, 0, none⟩) c (ml + 1) Am cm mm W1 := by
  have hge : ∀ k, (Value.slice Al ml cl).ownBlock = some k → W2.heap.size ≤ k := fun k hk => (h.ol.lt k hk).1
  have hsz := hg.size
  have hnew : ∀ x : Addr, x.block < W.heap.size → (∀ y, Al = some y → y.block ≠ x.block) → g ≠ x.block := by
    intro x hx hy e
    rcases hat with hat | hat
    · rw [ownBlock_slice] at hat
      obtain ⟨y, hA, hb⟩ := Option.map_eq_some_iff.1 hat
      exact hy y hA (by rw [hb, e])
    · omega
  refine ⟨h.bel.grown hg h.bel.size hge, h.ha.grown hg (fun e => own_blk_ne h.ol h.ha (by decide) e.symm), h.hb.grown hg (fun e => own_blk_ne h.ol h.hb (by decide) e.symm), ?_, ?_, by have := h.nl; omega, h.nm, ?_, ?_, ?_⟩
  · rw [List.replicate_succ']
    exact ho
  · refine h.om.kept hg ?_
    rw [ownBlock_slice, ownBlock_slice]
    cases hA : Am with
    | none => exact .inl rfl
    | some y =>
      refine .inr fun e => ?_
      obtain ⟨x, hx, hb⟩ := Option.map_eq_some_iff.1 e.symm
      exact h.ap x y hx hA hb
  · intro x y hx hy
    injection hx with hx
    subst hx
    have h1 := (h.om.lt y.block (by rw [ownBlock_slice, hy]; rfl)).2
    exact hnew y h1 fun z hz => h.ap z y hz hy
  · intro x hx
    obtain ⟨h1, h2, h3⟩ := h.ra x hx
    refine ⟨by omega, fun i hi => ?_, h3⟩
    rw [← h2 i hi]
    by_cases e : (Value.slice Al ml cl).ownBlock = some x.block
    · exact hpre _ i e (by have := h.nl; omega)
    · exact World.cell?_of_block (hg.block x.block h1 fun e2 => e e2.symm)
  · intro x hx
    obtain ⟨h1, h2, h3⟩ := h.rb x hx
    refine ⟨by omega, fun i hi => ?_, fun y hy => ?_⟩
    · rw [← h2 i hi]
      refine World.cell?_of_block (hg.block x.block h1 fun e => ?_)
      rw [ownBlock_slice] at e
      obtain ⟨y, hy, hb⟩ := Option.map_eq_some_iff.1 e.symm
      exact h3 y hy hb
    · injection hy with hy
      subst hy
      exact hnew x h1 h3
theorem LmSt.of (h : ShSt W2 s ba bb Aa ca Ab cb (List.replicate s.parties.length (.int .i64 va)) (List.replicate s.parties.length (.int .i64 vb)) W) (hap : ∀ x y, Aa = some x → Ab = some y → x.block ≠ y.block) :
    LmSt W2 s ba bb Aa ca Ab cb va vb Aa ca s.parties.length Ab cb s.parties.length W := by
  have hc : ∀ {A : Option Addr} {c : Nat} {v : Int} {x : Addr}, W.ownsRow W2.heap.size 3 1 (.slice A s.parties.length c) s.parties.length (List.replicate s.parties.length (.int .i64 v)) → A = some x → x.block < W.heap.size ∧ ∀ i, i < s.parties.length → W.cell? ⟨x.block, i, none⟩ = some (.int .i64 v) := by
    intro A c v x ho hA
    refine ⟨(ho.lt x.block (by rw [ownBlock_slice, hA]; rfl)).2, fun i hi => ?_⟩
    have h1 := World.ownsRow.cells ho (g := x.block) (by rw [ownBlock_slice, hA]; rfl) i (.int .i64 v) (by rw [List.getElem?_replicate, if_pos hi])
    rw [add_plain', Nat.zero_add] at h1
    exact h1
  exact ⟨h.bel, h.ha, h.hb, h.oa, h.ob, Nat.le_refl _, Nat.le_refl _, hap, fun x hx => ⟨(hc h.oa hx).1, (hc h.oa hx).2, fun y hy e => hap x y hx hy e.symm⟩, fun x hx => ⟨(hc h.ob hx).1, (hc h.ob hx).2, fun y hy e => hap y x hy hx e⟩⟩
end
set_option maxHeartbeats 4000000 in
set_option maxRecDepth 100000 in
theorem checkShapes_any (p : Prg) (w : World) (hf : p.Fits) (hr : p.Room) (hin : p.In w w.heap.size) (hop : p.Ops) (gv : GV w.heap.size w) :
    Calls Tryd.prog 4 #[p.val] w fun e w' => e = .returned (.bool true) ∧ Below w.heap.size w w' := by
  obtain ⟨i0, hi0, iz0, iz1, iz2⟩ := info_parts info_int
  have hlen := shape_len p hf
  obtain ⟨⟨th, va, vo, lo, ps⟩, hsh⟩ : ∃ s, p.shape = s := ⟨_, rfl⟩
  rw [hsh] at hlen
  have hps : ps.length * 24 ≤ 140737488351232 := hlen
  clear hlen
  have HSH := Lib.hid hsh; clear hsh
  have HF := Lib.hid hf; clear hf
  have HR := Lib.hid hr; clear hr
  have HI := Lib.hid hin; clear hin
  have HO := Lib.hid hop; clear hop
  have HG := Lib.hid gv; clear gv
  unfold Prg.val
  go_enter Tryd.func4, Tryd.ntmps4
  go_wp2_with fail
  generalize hW : World.alloc _ _ = W0
  have hb0 : Below w.heap.size w W0 := by subst hW; go_grown
  have hp0 : Blk W0 w.heap.size 27 p.arr := by
    subst hW
    exact Blk.new w _ _
  have hs0 : W0.heap.size = w.heap.size + 1 := by subst hW; simp
  clear hW
  have a0 : W0.cell? ⟨w.heap.size, 0, none⟩ = some (.slice p.Av p.vars.length p.cv) := hp0.cell 0
  refine (lent_any p W0 HF.out HR.out ((HI.out.below hb0).more (by omega))).mono ?_
  rintro e w1 ⟨q, rfl, hb1, hsame, hrows⟩
  have HSAME := Lib.hid hsame; clear hsame
  have hw1 := hb1.size
  have hbw1 : Below w.heap.size w w1 := hb0.trans (hb1.mono (by omega))
  have hp1 := hp0.below hb1 hp0.lt
  have HROWS := Lib.hid (hrows.base_ (base' := w.heap.size) (by omega)); clear hrows hp0 hb0 hb1 a0
  have b0 : w1.cell? ⟨w.heap.size, 0, none⟩ = some (.slice p.Av p.vars.length p.cv) := hp1.cell 0
  have b1 : w1.cell? ⟨w.heap.size, 1, none⟩ = some (.slice p.Ao p.vols.length p.co) := hp1.cell 1
  have b2 : w1.cell? ⟨w.heap.size, 2, none⟩ = some (.slice p.Al p.locks.length p.cl) := hp1.cell 2
  have b3 : w1.cell? ⟨w.heap.size, 3, none⟩ = some (.slice p.Ab p.bars.length p.cb) := hp1.cell 3
  have b4 : w1.cell? ⟨w.heap.size, 4, none⟩ = some (.slice p.At p.threads.length p.ct) := hp1.cell 4
  have hlt := hp1.lt
  unfold Prg.val
  go_wp2_with fail
  generalize hW : World.alloc _ _ = W1
  have hb2 : Below w1.heap.size w1 W1 := by subst hW; go_grown
  have hq1 : Blk W1 w1.heap.size 27 q.arr := by
    subst hW
    exact Blk.new w1 _ _
  have hs1 : W1.heap.size = w1.heap.size + 1 := by subst hW; simp
  clear hW b0 b1 b2 b3 b4 hlt
  have hbw2 : Below w.heap.size w W1 := hbw1.trans (hb2.mono (by omega))
  have hp2 := hp1.below hb2 hp1.lt
  have HROWS1 := Lib.hid (HROWS.out.below hb2); clear HROWS hp1 hb2 hbw1
  obtain ⟨bq, hbq⟩ : ∃ b, b = w1.heap.size := ⟨_, rfl⟩
  rw [← hbq] at hq1 hs1 hw1 ⊢
  clear hbq
  refine (refShape_any p W1 HF.out ((HI.out.below hbw2).more (by omega))).mono ?_
  rintro e w2 ⟨v, rfl, hb3, how⟩
  rw [HSH.out] at how ⊢
  obtain ⟨Aw, cw, rfl⟩ := own_form how
  have how : w2.ownsRow W1.heap.size 3 1 (.slice Aw ps.length cw) ps.length (ps.flatMap encZ) := how
  have hw2 := hb3.size
  have hq2 := hq1.below hb3 hq1.lt
  have hp3 := hp2.below hb3 hp2.lt
  have hbw3 : Below w.heap.size w w2 := hbw2.trans (hb3.mono (by omega))
  have HROWS2 := Lib.hid (HROWS1.out.below hb3); clear HROWS1 hp2 hb3 hbw2 hq1
  have HOW := Lib.hid (own_base how (base' := w.heap.size) (by omega)); clear how
  have b0 : w2.cell? ⟨bq, 0, none⟩ = some (.slice q.Av q.vars.length q.cv) := hq2.cell 0
  have b1 : w2.cell? ⟨bq, 1, none⟩ = some (.slice q.Ao q.vols.length q.co) := hq2.cell 1
  have b2 : w2.cell? ⟨bq, 2, none⟩ = some (.slice q.Al q.locks.length q.cl) := hq2.cell 2
  have b3 : w2.cell? ⟨bq, 3, none⟩ = some (.slice q.Ab q.bars.length q.cb) := hq2.cell 3
  have b4 : w2.cell? ⟨bq, 4, none⟩ = some (.slice q.At q.threads.length q.ct) := hq2.cell 4
  have hlt := hq2.lt
  unfold Shp.val
  go_wp2_with fail
  generalize hW : World.alloc _ _ = W2
  have HK2 : Hid (Kept w p q ⟨th, va, vo, lo, ps⟩ bq w2.heap.size Aw cw W2) := by
    subst hW
    have hal : Below w2.heap.size w2 (w2.alloc (.cells #[.int .i64 (th : Int), .int .i64 (va : Int), .int .i64 (vo : Int), .int .i64 (lo : Int), .slice Aw ps.length cw] 52)) := (Below.refl _ _).alloc (Nat.le_refl _) _
    exact ⟨hbw3.trans (hal.mono (by omega)), hp3.below hal hp3.lt, hq2.below hal hq2.lt, Blk.new _ _ _, HROWS2.out.below hal, own_below HOW.out hal⟩
  have hs2 : W2.heap.size = w2.heap.size + 1 := by subst hW; simp
  clear hW b0 b1 b2 b3 b4 hlt HROWS2 HOW hbw3 hp3 hq2
  obtain ⟨bt, hbt⟩ : ∃ b, b = w2.heap.size := ⟨_, rfl⟩
  rw [← hbt] at HK2 hs2 hw2 ⊢
  clear hbt
  have HFQ : Hid q.Fits := Lib.hid (HK2.out.rows.fits HSAME.out HF.out)
  have HOQ : Hid q.Ops := Lib.hid (HSAME.out.ops HO.out)
  have HSQ : Hid (q.shape = ⟨th, va, vo, lo, ps⟩) := Lib.hid (HSAME.out.shape.trans HSH.out)
  refine (shape_any q W2 HFQ.out HK2.out.rows.in_ HOQ.out ((HG.out.below HK2.out.bel).more HK2.out.bel.size)).mono ?_
  rintro e w3 ⟨v, rfl, hb3, hoa⟩
  rw [HSQ.out] at hoa ⊢
  obtain ⟨Aa, ca, rfl⟩ := own_form hoa
  have hoa : w3.ownsRow W2.heap.size 3 1 (.slice Aa ps.length ca) ps.length (ps.flatMap encZ) := hoa
  have HK3 := Lib.hid (HK2.out.below hb3)
  have hw3 := hb3.size
  have b0 : w3.cell? ⟨bq, 0, none⟩ = some (.slice q.Av q.vars.length q.cv) := HK3.out.hq.cell 0
  have b1 : w3.cell? ⟨bq, 1, none⟩ = some (.slice q.Ao q.vols.length q.co) := HK3.out.hq.cell 1
  have b2 : w3.cell? ⟨bq, 2, none⟩ = some (.slice q.Al q.locks.length q.cl) := HK3.out.hq.cell 2
  have b3 : w3.cell? ⟨bq, 3, none⟩ = some (.slice q.Ab q.bars.length q.cb) := HK3.out.hq.cell 3
  have b4 : w3.cell? ⟨bq, 4, none⟩ = some (.slice q.At q.threads.length q.ct) := HK3.out.hq.cell 4
  have hlt := HK3.out.hq.lt
  unfold Shp.val
  go_wp2_with fail
  generalize hW : World.alloc _ _ = W3
  have hal : Below w3.heap.size w3 W3 := by subst hW; go_grown
  have ha3 : Blk W3 w3.heap.size 52 (Shp.arr ⟨th, va, vo, lo, ps⟩ (.slice Aa ps.length ca)) := by
    subst hW
    exact Blk.new _ _ _
  have hs3 : W3.heap.size = w3.heap.size + 1 := by subst hW; simp
  have HK4 := Lib.hid (HK3.out.below hal)
  have HOA := Lib.hid (own_below hoa hal)
  have hB3 : Below W2.heap.size W2 W3 := hb3.trans (hal.mono (by omega))
  clear hW b0 b1 b2 b3 b4 hlt hal hb3 hoa HK3
  obtain ⟨ba, hba⟩ : ∃ b, b = w3.heap.size := ⟨_, rfl⟩
  rw [← hba] at ha3 hs3 hw3 ⊢
  clear hba
  refine (shape_any q W3 HFQ.out HK4.out.rows.in_ HOQ.out ((HG.out.below HK4.out.bel).more HK4.out.bel.size)).mono ?_
  rintro e w4 ⟨v, rfl, hb4, hob⟩
  rw [HSQ.out] at hob ⊢
  obtain ⟨Ab, cb, rfl⟩ := own_form hob
  have hob : w4.ownsRow W3.heap.size 3 1 (.slice Ab ps.length cb) ps.length (ps.flatMap encZ) := hob
  have HK5 := Lib.hid (HK4.out.below hb4)
  have HOA5 := Lib.hid (own_below HOA.out hb4)
  have ha4 := ha3.below hb4 ha3.lt
  have hw4 := hb4.size
  have hapart : ∀ x y, Aa = some x → Ab = some y → x.block ≠ y.block := by
    intro x y hx hy
    have h1 := (HOA.out.lt x.block (by rw [hx]; rfl)).2
    have h2 := (hob.lt y.block (by rw [hy]; rfl)).1
    omega
  clear HOA ha3
  unfold Shp.val
  go_upto_region 5 with (fail)
  generalize hW : World.alloc _ _ = W5
  have hal : Below w4.heap.size w4 W5 := by subst hW; go_grown
  have hbb5 : Blk W5 w4.heap.size 52 (Shp.arr ⟨th, va, vo, lo, ps⟩ (.slice Ab ps.length cb)) := by
    subst hW
    exact Blk.new _ _ _
  have hs5 : W5.heap.size = w4.heap.size + 1 := by subst hW; simp
  have HK6 := Lib.hid (HK5.out.below hal)
  have HOA6 := Lib.hid (own_below HOA5.out hal)
  have HOB6 := Lib.hid (own_base (own_below hob hal) (base' := W2.heap.size) (by omega))
  have HBA6 := Lib.hid (ha4.below hal ha4.lt)
  have HBB6 := Lib.hid hbb5
  have hB5 : Below W2.heap.size W2 W5 := (hB3.trans (hb4.mono (by omega))).trans (hal.mono (by omega))
  have HAP := Lib.hid hapart
  clear hW hal hb4 hob HK5 HOA5 ha4 hB3 hapart hoa how hbb5
  obtain ⟨bb, hbb⟩ : ∃ b, b = w4.heap.size := ⟨_, rfl⟩
  rw [← hbb] at HBB6 hs5 hw4 ⊢
  clear hbb
  have z1 : W1.heap.size ≤ bt := hw2
  have z2 : bq < bt := by omega
  have z3 : bt < ba := by omega
  have z4 : ba < bb := by omega
  have z5 : bb < W5.heap.size := by omega
  have z6 : w.heap.size < bq := by omega
  have z7 : bt < W2.heap.size := by omega
  have z8 : W2.heap.size ≤ ba := by omega
  clear hs0 hs1 hs2 hs3 hs5 hw1 hw2 hw3 hw4 z1
  have q0 : W5.cell? ⟨bq, 0, none⟩ = some (.slice q.Av q.vars.length q.cv) := HK6.out.hq.cell 0
  have q1 : W5.cell? ⟨bq, 1, none⟩ = some (.slice q.Ao q.vols.length q.co) := HK6.out.hq.cell 1
  have q2 : W5.cell? ⟨bq, 2, none⟩ = some (.slice q.Al q.locks.length q.cl) := HK6.out.hq.cell 2
  have q3 : W5.cell? ⟨bq, 3, none⟩ = some (.slice q.Ab q.bars.length q.cb) := HK6.out.hq.cell 3
  have q4 : W5.cell? ⟨bq, 4, none⟩ = some (.slice q.At q.threads.length q.ct) := HK6.out.hq.cell 4
  have p0 : W5.cell? ⟨w.heap.size, 0, none⟩ = some (.slice p.Av p.vars.length p.cv) := HK6.out.hp.cell 0
  have p1 : W5.cell? ⟨w.heap.size, 1, none⟩ = some (.slice p.Ao p.vols.length p.co) := HK6.out.hp.cell 1
  have p2 : W5.cell? ⟨w.heap.size, 2, none⟩ = some (.slice p.Al p.locks.length p.cl) := HK6.out.hp.cell 2
  have p3 : W5.cell? ⟨w.heap.size, 3, none⟩ = some (.slice p.Ab p.bars.length p.cb) := HK6.out.hp.cell 3
  have p4 : W5.cell? ⟨w.heap.size, 4, none⟩ = some (.slice p.At p.threads.length p.ct) := HK6.out.hp.cell 4
  have t0 : W5.cell? ⟨bt, 0, none⟩ = some (.int .i64 (th : Int)) := HK6.out.ht.cell 0
  have t1 : W5.cell? ⟨bt, 1, none⟩ = some (.int .i64 (va : Int)) := HK6.out.ht.cell 1
  have t2 : W5.cell? ⟨bt, 2, none⟩ = some (.int .i64 (vo : Int)) := HK6.out.ht.cell 2
  have t3 : W5.cell? ⟨bt, 3, none⟩ = some (.int .i64 (lo : Int)) := HK6.out.ht.cell 3
  have t4 : W5.cell? ⟨bt, 4, none⟩ = some (.slice Aw ps.length cw) := HK6.out.ht.cell 4
  have a0 : W5.cell? ⟨ba, 0, none⟩ = some (.int .i64 (th : Int)) := HBA6.out.cell 0
  have a1 : W5.cell? ⟨ba, 1, none⟩ = some (.int .i64 (va : Int)) := HBA6.out.cell 1
  have a2 : W5.cell? ⟨ba, 2, none⟩ = some (.int .i64 (vo : Int)) := HBA6.out.cell 2
  have a3 : W5.cell? ⟨ba, 3, none⟩ = some (.int .i64 (lo : Int)) := HBA6.out.cell 3
  have a4 : W5.cell? ⟨ba, 4, none⟩ = some (.slice Aa ps.length ca) := HBA6.out.cell 4
  have b0 : W5.cell? ⟨bb, 0, none⟩ = some (.int .i64 (th : Int)) := HBB6.out.cell 0
  have b1 : W5.cell? ⟨bb, 1, none⟩ = some (.int .i64 (va : Int)) := HBB6.out.cell 1
  have b2 : W5.cell? ⟨bb, 2, none⟩ = some (.int .i64 (vo : Int)) := HBB6.out.cell 2
  have b3 : W5.cell? ⟨bb, 3, none⟩ = some (.int .i64 (lo : Int)) := HBB6.out.cell 3
  have b4 : W5.cell? ⟨bb, 4, none⟩ = some (.slice Ab ps.length cb) := HBB6.out.cell 4
  go_wp2_with fail
  refine (sameShape_any ⟨th, va, vo, lo, ps⟩ Aa Aw ca cw W5 (by show ps.length * 8 ≤ _; omega) (own_rd HOA6.out) HK6.out.rd).mono ?_
  rintro e x1 ⟨rfl, hx1⟩
  obtain ⟨hc1, hf1⟩ := bcell hx1
  clear hf1
  have hz1 := hx1.size
  have lqW5 : bq < W5.heap.size := by omega
  have lpW5 : w.heap.size < W5.heap.size := by omega
  have ltW5 : bt < W5.heap.size := by omega
  have laW5 : ba < W5.heap.size := by omega
  have lbW5 : bb < W5.heap.size := by omega
  have lqx1 : bq < x1.heap.size := by omega
  have lpx1 : w.heap.size < x1.heap.size := by omega
  have ltx1 : bt < x1.heap.size := by omega
  have lax1 : ba < x1.heap.size := by omega
  have lbx1 : bb < x1.heap.size := by omega
  go_wp2_with fail
  refine (sameShape_any ⟨th, va, vo, lo, ps⟩ Ab Aw cb cw x1 (by show ps.length * 8 ≤ _; omega) (own_rd (own_below HOB6.out hx1)) (HK6.out.below hx1).rd).mono ?_
  rintro e x2 ⟨rfl, hx2⟩
  obtain ⟨hc2, hf2⟩ := bcell hx2
  clear hf2
  have hz2 := hx2.size
  have lqx2 : bq < x2.heap.size := by omega
  have lpx2 : w.heap.size < x2.heap.size := by omega
  have ltx2 : bt < x2.heap.size := by omega
  have lax2 : ba < x2.heap.size := by omega
  have lbx2 : bb < x2.heap.size := by omega
  go_wp2_with fail
  have hx12 : Below W5.heap.size W5 x2 := hx1.trans (hx2.mono (by omega))
  have hk2 := HK6.out.below hx12
  refine (left_any q p x2 HSAME.out hk2.rows HF.out ((HI.out.below hk2.bel).more hk2.bel.size)).mono ?_
  rintro e x3 ⟨rfl, hx3⟩
  have hx13 : Below W5.heap.size W5 x3 := hx12.trans (hx3.mono hx12.size)
  have HK7 := Lib.hid (HK6.out.below hx13)
  have HOA7 := Lib.hid (own_below HOA6.out hx13)
  have HOB7 := Lib.hid (own_below HOB6.out hx13)
  have HBA7 := Lib.hid (HBA6.out.below hx13 HBA6.out.lt)
  have HBB7 := Lib.hid (HBB6.out.below hx13 HBB6.out.lt)
  have hB7 : Below W2.heap.size W2 x3 := hB5.trans (hx13.mono hB5.size)
  clear hc1 hc2 hx1 hx2 hx12 hk2 hx3 hx13 HK6 HOA6 HOB6 HBA6 HBB6 hB5 q0 q1 q2 q3 q4 p0 p1 p2 p3 p4 t0 t1 t2 t3 t4 a0 a1 a2 a3 a4 b0 b1 b2 b3 b4
  clear lqW5 lpW5 ltW5 laW5 lbW5 lqx1 lpx1 ltx1 lax1 lbx1 lqx2 lpx2 ltx2 lax2 lbx2 hz1 hz2
  go_wp2_with fail
  have HAF : Hid (0 < ps.length → ∃ g, Aa = some ⟨g, 0, none⟩) := Lib.hid fun h => by
    obtain ⟨g, _, hv, _⟩ := HOA7.out.form h
    injection hv with hv
    exact ⟨g, hv⟩
  have HBF : Hid (0 < ps.length → ∃ g, Ab = some ⟨g, 0, none⟩) := Lib.hid fun h => by
    obtain ⟨g, _, hv, _⟩ := HOB7.out.form h
    injection hv with hv
    exact ⟨g, hv⟩
  go_loopw [7] (fun i wr => ∃ k : Nat, k ≤ ps.length ∧ i = .int .i64 k ∧ ShSt W2 ⟨th, va, vo, lo, ps⟩ ba bb Aa ca Ab cb (fill (-1) k ps) (fill (-2) k ps) wr) (fun i _ => ps.length - (intOf i).toNat)
  case atStart => exact ⟨0, by omega, rfl, hB7, HBA7.out, HBB7.out, by rw [fill_zero]; exact HOA7.out, by rw [fill_zero]; exact HOB7.out⟩
  case round =>
    clear HK7 HOA7 HOB7 HBA7 HBB7 hB7
    obtain ⟨k, hk, rfl, hst⟩ := hrel
    have HST := Lib.hid hst; clear hst
    have a4 : wr.cell? ⟨ba, 4, none⟩ = some (.slice Aa ps.length ca) := HST.out.ha.cell 4
    have la : ba < wr.heap.size := HST.out.ha.lt
    by_cases hlt : k < ps.length
    · obtain ⟨ga, _, hva, _, hga⟩ := HST.out.oa.form (by show 0 < ps.length; omega)
      obtain ⟨gb, _, hvb, _, hgb⟩ := HST.out.ob.form (by show 0 < ps.length; omega)
      injection hva with hva
      injection hvb with hvb
      subst hva hvb
      obtain ⟨x, hx⟩ := fill_get (-1) k ps hlt
      obtain ⟨y, hy⟩ := fill_get (-2) k ps hlt
      have c1 : wr.cell? ⟨ga, k, none⟩ = some (.int .i64 x) := own_cell HST.out.oa hx
      have f1 := own_frozen HST.out.oa k
      have hk0 : (0 : Int) ≤ (k : Int) := by omega
      have hk1 : (k : Int) < (ps.length : Int) := by omega
      have HY := Lib.hid hy
      clear hx hy
      go_upto_region 11 with (fail)
      generalize hW : World.setCell _ _ _ = X1
      have HS1 : Hid (ShSt W2 ⟨th, va, vo, lo, ps⟩ ba bb (some ⟨ga, 0, none⟩) ca (some ⟨gb, 0, none⟩) cb (fill (-1) (k + 1) ps) (fill (-2) k ps) X1) := by
        subst hW
        rw [← fill_succ (-1) k ps hlt]
        exact HST.out.set rfl HAP.out k _
      have b4 : X1.cell? ⟨bb, 4, none⟩ = some (.slice (some ⟨gb, 0, none⟩) ps.length cb) := HS1.out.hb.cell 4
      have lb : bb < X1.heap.size := HS1.out.hb.lt
      have c2 : X1.cell? ⟨gb, k, none⟩ = some (.int .i64 y) := own_cell HS1.out.ob HY.out
      have f2 := own_frozen HS1.out.ob k
      have hgb1 : gb < X1.heap.size := (HS1.out.ob.lt gb rfl).2
      clear hW HST HY c1 f1 a4 la hga hgb
      go_wp2_with fail
      go_roundw
      case rel =>
        refine ⟨k + 1, by omega, by go_num, ?_⟩
        rw [← fill_succ (-2) k ps hlt]
        exact (HS1.out.swap.set rfl (fun x y hx hy e => HAP.out y x hy hx e.symm) k _).swap
      case measure => simp [intOf]; omega
    · obtain rfl : k = ps.length := by omega
      clear hk hlt
      obtain ⟨X1, rfl⟩ : ∃ x : World, x = wr := ⟨_, rfl⟩
      have hlm : LmSt W2 ⟨th, va, vo, lo, ps⟩ ba bb Aa ca Ab cb (-1) (-2) Aa ca ps.length Ab cb ps.length X1 := by
        have h1 := HST.out
        rw [fill_all, fill_all] at h1
        exact LmSt.of h1 HAP.out
      have b4 : X1.cell? ⟨bb, 4, none⟩ = some (.slice Ab ps.length cb) := HST.out.hb.cell 4
      have lb : bb < X1.heap.size := HST.out.hb.lt
      have HLM := Lib.hid hlm
      clear hlm HST
      go_wp2_with fail
      clear a4 la b4 lb
      go_loopw [8, 9, 10] (fun s8 s9 i wr => ∃ (j : Nat) (Al : Option Addr) (cl : Nat) (Am : Option Addr) (cm : Nat), j ≤ 70 ∧ i = .int .i64 j ∧ s8 = .slice Al (ps.length + j) cl ∧ s9 = .slice Am (ps.length + j) cm ∧ LmSt W2 ⟨th, va, vo, lo, ps⟩ ba bb Aa ca Ab cb (-1) (-2) Al cl (ps.length + j) Am cm (ps.length + j) wr) (fun _ _ i _ => 70 - (intOf i).toNat)
      case atStart => exact ⟨0, Aa, ca, Ab, cb, by omega, rfl, rfl, rfl, HLM.out⟩
      case round =>
        clear HLM
        obtain ⟨j, Al, cl, Am, cm, hj, rfl, rfl, rfl, hst⟩ := hrel
        have HST := Lib.hid hst; clear hst
        by_cases hlt : j < 70
        · have hwr := HST.out.bel.size
          go_upto_region 18 with (at_builtin; go_must (refine wpList_append_pre rfl (.tmp 59) (.tmp 60) 50 rfl _ _ W2.heap.size 3 i0 _ 1 8 Tryd.underlying50 hi0 iz0 iz1 iz2 rfl (by omega) (.slice Al (ps.length + j) cl) (ps.length + j) _ (by rfl) _ (by rfl) (by simp) (by rfl) (by simp [Value.oneCell']) (by exact HST.out.ol) (by simp only [maxLen]; omega) (by omega) (by omega) ?_); intro g1 d1 w3 ho hg hat hpre; have HO := Lib.hid ho; have HGG := Lib.hid hg; have HT := Lib.hid hat; have HPR := Lib.hid hpre; clear ho hg hat hpre)
          have HS1 := Lib.hid (HST.out.app HO.out HGG.out HT.out HPR.out)
          have hw3 := HS1.out.bel.size
          clear HST HO HGG HT HPR hwr
          go_wp2_with (at_builtin; go_must (refine wpList_append_pre rfl (.tmp 62) (.tmp 63) 50 rfl _ _ W2.heap.size 3 i0 _ 1 8 Tryd.underlying50 hi0 iz0 iz1 iz2 rfl (by omega) (.slice Am (ps.length + j) cm) (ps.length + j) _ (by rfl) _ (by rfl) (by simp) (by rfl) (by simp [Value.oneCell']) (by exact HS1.out.om) (by simp only [maxLen]; omega) (by omega) (by omega) ?_); intro g2 d2 w4 ho hg hat hpre; have HO := Lib.hid ho; have HGG := Lib.hid hg; have HT := Lib.hid hat; have HPR := Lib.hid hpre; clear ho hg hat hpre)
          go_roundw
          case rel => exact ⟨j + 1, _, _, _, _, by omega, by go_num, rfl, rfl, (HS1.out.swap.app HO.out HGG.out HT.out HPR.out).swap⟩
          case measure => simp [intOf]; omega
        · obtain ⟨X2, rfl⟩ : ∃ x : World, x = wr := ⟨_, rfl⟩
          obtain ⟨N, hN⟩ : ∃ N, N = ps.length + j := ⟨_, rfl⟩
          rw [← hN] at HST ⊢
          have hN1 : ps.length < N := by omega
          have hN2 : N ≤ ps.length + 70 := by omega
          clear hN
          obtain ⟨gl, _, hvl, _, hgl⟩ := HST.out.ol.form (by omega)
          obtain ⟨gm, _, hvm, _, hgm⟩ := HST.out.om.form (by omega)
          injection hvl with hvl
          injection hvm with hvm
          subst hvl hvm
          have HCL : Hid (∀ i, i < N → X2.cell? ⟨gl, i, none⟩ = some (.int .i64 (-1))) := Lib.hid fun i hi => own_cell HST.out.ol (by rw [List.getElem?_replicate, if_pos hi])
          have HCM : Hid (∀ i, i < N → X2.cell? ⟨gm, i, none⟩ = some (.int .i64 (-2))) := Lib.hid fun i hi => own_cell HST.out.om (by rw [List.getElem?_replicate, if_pos hi])
          have a4 : X2.cell? ⟨ba, 4, none⟩ = some (.slice Aa ps.length ca) := HST.out.ha.cell 4
          have b4 : X2.cell? ⟨bb, 4, none⟩ = some (.slice Ab ps.length cb) := HST.out.hb.cell 4
          go_wp2_with fail
          go_loop [11] (fun i => ∃ k : Nat, k ≤ N ∧ i = .int .i64 k) (fun i => N - (intOf i).toNat)
          case atStart => exact ⟨0, by omega, rfl⟩
          case round =>
            obtain ⟨k, hk, rfl⟩ := hrel
            by_cases hlt2 : k < N
            · have c1 := HCL.out k hlt2
              have c2 := HCM.out k hlt2
              have hk0 : (0 : Int) ≤ (k : Int) := by omega
              have hk1 : (k : Int) < (N : Int) := by omega
              by_cases hlt3 : k < ps.length
              · have hk2 : (k : Int) < (ps.length : Int) := by omega
                have hA : ∃ ga, Aa = some ⟨ga, 0, none⟩ ∧ X2.cell? ⟨ga, k, none⟩ = some (.int .i64 (-1)) := by
                  obtain ⟨g, hg⟩ := HAF.out (by omega)
                  exact ⟨g, hg, (HST.out.ra _ hg).2.1 k hlt3⟩
                have hB : ∃ gb, Ab = some ⟨gb, 0, none⟩ ∧ X2.cell? ⟨gb, k, none⟩ = some (.int .i64 (-2)) := by
                  obtain ⟨g, hg⟩ := HBF.out (by omega)
                  exact ⟨g, hg, (HST.out.rb _ hg).2.1 k hlt3⟩
                obtain ⟨ga, hA, c3⟩ := hA
                obtain ⟨gb, hB, c4⟩ := hB
                rw [hA] at a4
                rw [hB] at b4
                clear hA hB
                go_wp2_with fail
                go_round
                case rel => exact ⟨k + 1, by omega, by go_num⟩
                case measure => simp [intOf]; omega
              · have hk2 : decide ((k : Int) < (ps.length : Int)) = false := by simp; omega
                have hk3 : ¬ k < ps.length := hlt3
                go_wp2_with fail
                go_round
                case rel => exact ⟨k + 1, by omega, by go_num⟩
                case measure => simp [intOf]; omega
            · obtain rfl : k = N := by omega
              clear hk hlt2 a4 b4
              have HK8 := Lib.hid (HK2.out.below HST.out.bel)
              clear HCL HCM HST
              go_wp2_with fail
              have HKW : Hid (∀ W, Below X2.heap.size X2 W → q.In W W.heap.size ∧ GV W.heap.size W ∧ RdL encZ 1 W W.heap.size Aw ps ∧ Below w.heap.size w W) := Lib.hid fun W hb => by
                have h1 := HK8.out.below hb
                exact ⟨h1.rows.in_, (HG.out.below h1.bel).more h1.bel.size, h1.rd, h1.bel⟩
              have lq : bq < X2.heap.size := HK8.out.hq.lt
              have lt : bt < X2.heap.size := HK8.out.ht.lt
              have q0 : X2.cell? ⟨bq, 0, none⟩ = some (.slice q.Av q.vars.length q.cv) := HK8.out.hq.cell 0
              have q1 : X2.cell? ⟨bq, 1, none⟩ = some (.slice q.Ao q.vols.length q.co) := HK8.out.hq.cell 1
              have q2 : X2.cell? ⟨bq, 2, none⟩ = some (.slice q.Al q.locks.length q.cl) := HK8.out.hq.cell 2
              have q3 : X2.cell? ⟨bq, 3, none⟩ = some (.slice q.Ab q.bars.length q.cb) := HK8.out.hq.cell 3
              have q4 : X2.cell? ⟨bq, 4, none⟩ = some (.slice q.At q.threads.length q.ct) := HK8.out.hq.cell 4
              have t0 : X2.cell? ⟨bt, 0, none⟩ = some (.int .i64 (th : Int)) := HK8.out.ht.cell 0
              have t1 : X2.cell? ⟨bt, 1, none⟩ = some (.int .i64 (va : Int)) := HK8.out.ht.cell 1
              have t2 : X2.cell? ⟨bt, 2, none⟩ = some (.int .i64 (vo : Int)) := HK8.out.ht.cell 2
              have t3 : X2.cell? ⟨bt, 3, none⟩ = some (.int .i64 (lo : Int)) := HK8.out.ht.cell 3
              have t4 : X2.cell? ⟨bt, 4, none⟩ = some (.slice Aw ps.length cw) := HK8.out.ht.cell 4
              clear HK8
              have hd0 : Hid (Below X2.heap.size X2 X2.drew) := Lib.hid (Below.refl _ _).drew
              go_region_held3 (fun w' => w'.cell? ⟨bq, 0, none⟩ = some (.slice q.Av q.vars.length q.cv) ∧ w'.cell? ⟨bq, 1, none⟩ = some (.slice q.Ao q.vols.length q.co) ∧ w'.cell? ⟨bq, 2, none⟩ = some (.slice q.Al q.locks.length q.cl) ∧ w'.cell? ⟨bq, 3, none⟩ = some (.slice q.Ab q.bars.length q.cb) ∧ w'.cell? ⟨bq, 4, none⟩ = some (.slice q.At q.threads.length q.ct) ∧ w'.cell? ⟨bt, 0, none⟩ = some (.int .i64 (th : Int)) ∧ w'.cell? ⟨bt, 1, none⟩ = some (.int .i64 (va : Int)) ∧ w'.cell? ⟨bt, 2, none⟩ = some (.int .i64 (vo : Int)) ∧ w'.cell? ⟨bt, 3, none⟩ = some (.int .i64 (lo : Int)) ∧ w'.cell? ⟨bt, 4, none⟩ = some (.slice Aw ps.length cw)) (first | exact ⟨(hc7 _ _ lq6).trans ((hc6 _ _ lq5).trans ((hc5 _ _ lq).trans q0)), (hc7 _ _ lq6).trans ((hc6 _ _ lq5).trans ((hc5 _ _ lq).trans q1)), (hc7 _ _ lq6).trans ((hc6 _ _ lq5).trans ((hc5 _ _ lq).trans q2)), (hc7 _ _ lq6).trans ((hc6 _ _ lq5).trans ((hc5 _ _ lq).trans q3)), (hc7 _ _ lq6).trans ((hc6 _ _ lq5).trans ((hc5 _ _ lq).trans q4)), (hc7 _ _ lt6).trans ((hc6 _ _ lt5).trans ((hc5 _ _ lt).trans t0)), (hc7 _ _ lt6).trans ((hc6 _ _ lt5).trans ((hc5 _ _ lt).trans t1)), (hc7 _ _ lt6).trans ((hc6 _ _ lt5).trans ((hc5 _ _ lt).trans t2)), (hc7 _ _ lt6).trans ((hc6 _ _ lt5).trans ((hc5 _ _ lt).trans t3)), (hc7 _ _ lt6).trans ((hc6 _ _ lt5).trans ((hc5 _ _ lt).trans t4))⟩ | exact ⟨(hc6 _ _ lq5).trans ((hc5 _ _ lq).trans q0), (hc6 _ _ lq5).trans ((hc5 _ _ lq).trans q1), (hc6 _ _ lq5).trans ((hc5 _ _ lq).trans q2), (hc6 _ _ lq5).trans ((hc5 _ _ lq).trans q3), (hc6 _ _ lq5).trans ((hc5 _ _ lq).trans q4), (hc6 _ _ lt5).trans ((hc5 _ _ lt).trans t0), (hc6 _ _ lt5).trans ((hc5 _ _ lt).trans t1), (hc6 _ _ lt5).trans ((hc5 _ _ lt).trans t2), (hc6 _ _ lt5).trans ((hc5 _ _ lt).trans t3), (hc6 _ _ lt5).trans ((hc5 _ _ lt).trans t4)⟩ | exact ⟨(hc5 _ _ lq).trans q0, (hc5 _ _ lq).trans q1, (hc5 _ _ lq).trans q2, (hc5 _ _ lq).trans q3, (hc5 _ _ lq).trans q4, (hc5 _ _ lt).trans t0, (hc5 _ _ lt).trans t1, (hc5 _ _ lt).trans t2, (hc5 _ _ lt).trans t3, (hc5 _ _ lt).trans t4⟩ | go_keep) (first
                | (go_at_call 16; refine (shape_any q X2.drew HFQ.out (HKW.out _ hd0.out).1 HOQ.out (HKW.out _ hd0.out).2.1).mono ?_; rintro e x5 ⟨v5, rfl, hx5, ho5⟩; rw [HSQ.out] at ho5 ⊢; obtain ⟨A5, c5, rfl⟩ := own_form ho5; obtain ⟨hc5, hf5⟩ := bcell hx5; clear hf5; have lq5 : bq < x5.heap.size := Nat.lt_of_lt_of_le lq hx5.size; have lt5 : bt < x5.heap.size := Nat.lt_of_lt_of_le lt hx5.size; have hd5 := Lib.hid (hd0.out.trans hx5); have HO5 := Lib.hid ho5; clear ho5 hx5; unfold Shp.val)
                | (go_at_call 17; refine (sameShape_any ⟨th, va, vo, lo, ps⟩ A5 Aw c5 cw x5 (by show ps.length * 8 ≤ _; omega) (own_rd HO5.out) (HKW.out _ hd5.out).2.2.1).mono ?_; rintro e x6 ⟨rfl, hx6⟩; obtain ⟨hc6, hf6⟩ := bcell hx6; clear hf6; have lq6 : bq < x6.heap.size := Nat.lt_of_lt_of_le lq5 hx6.size; have lt6 : bt < x6.heap.size := Nat.lt_of_lt_of_le lt5 hx6.size; have hd6 := Lib.hid (hd5.out.trans (hx6.mono hd5.out.size)); clear hx6)
                | (go_at_call 14; refine (lives_any x6 (HKW.out _ hd6.out).2.1).mono ?_; rintro e x7 ⟨rfl, hx7⟩; obtain ⟨hc7, hf7⟩ := bcell hx7; clear hf7; have hd7 := Lib.hid (hd6.out.trans (hx7.mono hd6.out.size)); clear hx7))
              all_goals
                go_wp2_with fail
                go_ret
                exact ⟨rfl, (HKW.out _ hd7.out).2.2.2⟩
end Go.Proofs.YtknnbckmdfnmaaaDoor
