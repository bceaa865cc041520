/- Contract of abreastlaw13.told. Conditions: those of asked. -/
import Derived.Test.YtgdnpmpnkbnjaaaGreatDoorZToldD
import Derived.Test.YtgdnpmpnkbnjaaaGreatDoorZAlone
import Derived.Test.YtgdnpmpnkbnjaaaGreatDoorZEdges
import Derived.Test.YtgdnpmpnkbnjaaaGreatDoorZTouches
import Derived.Deep.Cut
namespace Go.Proofs.YtgdnpmpnkbnjaaaGreatDoor
open Go.RowKit

noncomputable def toldV (p : Prg) (th : Int) (A : Nat → Option Addr) (c : Nat → Nat) (AT : Nat → Option Addr) (cT : Nat → Nat) (ls lp : List (List Nat)) : Value := .agg #[.slice (A 0) (edgesL p th).length (c 0), .slice (A 1) (reachL p th).length (c 1), .slice (A 2) (startL p).length (c 2), .slice (A 3) (aloneL p).length (c 3), .slice (A 4) ls.length (c 4), .slice (A 5) lp.length (c 5), .slice (AT 0) (touchesL p th 0).length (cT 0), .slice (AT 1) (touchesL p th 1).length (cT 1), .slice (AT 2) (touchesL p th 2).length (cT 2), .slice (AT 3) (touchesL p th 3).length (cT 3), .slice (AT 4) (touchesL p th 4).length (cT 4), .slice (AT 5) (touchesL p th 5).length (cT 5), .slice (AT 6) (touchesL p th 6).length (cT 6), .slice (AT 7) (touchesL p th 7).length (cT 7), .slice (AT 8) (touchesL p th 8).length (cT 8), .int .i64 (askedN p th), .int .i64 (askedN p th), .int .i64 (askedN p th), .int .i64 (askedN p 0), .int .i64 (askedN p th), .int .i64 (askedN p th), .int .i64 (askedN p 0)]
/-- what told answers -/
structure ToldAt (p : Prg) (th : Int) (W : World) (A AT : Nat → Option Addr) (ls lp : List (List Nat)) : Prop where
  edges : RdL encE 2 W W.heap.size (A 0) (edgesL p th)
  reach : RdL encM 1 W W.heap.size (A 1) (reachL p th)
  started : RdL encM 1 W W.heap.size (A 2) (startL p)
  surely : LL W W.heap.size (A 4) ls
  perhaps : LL W W.heap.size (A 5) lp
  touch : TouchAt W W.heap.size AT (touchesL p th)
  hs : HeldL (· &&& ·) p th ls
  hp : HeldL (· ||| ·) p th lp
set_option maxRecDepth 100000 in
set_option maxHeartbeats 8000000 in
theorem told_any (p : Prg) (th : Int) (w : World) (hE : Env p w) : Calls Tryz.prog 9 #[p.val, .int .i64 th] w fun e w' => ∃ A c AT cT ls lp, e = .returned (toldV p th A c AT cT ls lp) ∧ ToldAt p th w' A AT ls lp ∧ Below w.heap.size w w' := by
  have HE := Lib.hid hE; clear hE
  have hpre : Hid (∀ W0 : World, W0 = ((w.alloc (.cells p.cells 27)).alloc (.cells #[.slice none 0 0, .slice none 0 0, .slice none 0 0, .slice none 0 0, .slice none 0 0, .slice none 0 0, .slice none 0 0, .slice none 0 0, .slice none 0 0, .slice none 0 0, .slice none 0 0, .slice none 0 0, .slice none 0 0, .slice none 0 0, .slice none 0 0, .int .i64 0, .int .i64 0, .int .i64 0, .int .i64 0, .int .i64 0, .int .i64 0, .int .i64 0] 44)).alloc (.cells #[.slice none 0 0, .slice none 0 0, .slice none 0 0, .slice none 0 0, .slice none 0 0, .slice none 0 0, .slice none 0 0, .slice none 0 0, .slice none 0 0, .slice none 0 0, .slice none 0 0, .slice none 0 0, .slice none 0 0, .slice none 0 0, .slice none 0 0, .int .i64 0, .int .i64 0, .int .i64 0, .int .i64 0, .int .i64 0, .int .i64 0, .int .i64 0] 44) → ToldSt p w W0 #[.slice none 0 0, .slice none 0 0, .slice none 0 0, .slice none 0 0, .slice none 0 0, .slice none 0 0, .slice none 0 0, .slice none 0 0, .slice none 0 0, .slice none 0 0, .slice none 0 0, .slice none 0 0, .slice none 0 0, .slice none 0 0, .slice none 0 0, .int .i64 0, .int .i64 0, .int .i64 0, .int .i64 0, .int .i64 0, .int .i64 0, .int .i64 0] ∧ W0.heap.size = w.heap.size + 3) := Lib.hid (by
    rintro W0 rfl
    exact ⟨⟨by go_grown, ((Blk.new w _ _).alloc _).alloc _, ⟨_, rfl, ((Blk.new _ _ _).moved (by simp)).alloc _⟩, (Blk.new _ _ _).moved (by simp), rfl⟩, by simp⟩)
  unfold Prg.val
  go_enter Tryz.func9, Tryz.ntmps9
  go_wp2_with fail
  generalize hW : World.alloc _ _ = W0
  obtain ⟨h1, h2⟩ := hpre.out W0 hW.symm
  have HT0 := Lib.hid h1
  have HSZ := Lib.hid h2
  clear hW h1 h2
  refine (edges_any p th W0 (HE.out.keep HT0.out.below)).mono ?_
  rintro e u0 ⟨A0, c0, rfl, ⟨hr0, hn0⟩, hb⟩
  have HN0 := Lib.hid (hn0.less (B' := w.heap.size + 3) (by have := HSZ.out; omega))
  have HR0 := Lib.hid hr0
  clear hr0 hn0
  have HU0 := Lib.hid (HT0.out.call hb)
  have HB0 := Lib.hid hb
  clear hb
  obtain ⟨z0, hc0⟩ := HU0.out.cell 0 (by omega)
  have hf0 := HU0.out.frozen 0
  obtain ⟨z15, hc15⟩ := HU0.out.cell 15 (by omega)
  have hf15 := HU0.out.frozen 15
  have l0 := HU0.out.box.lt
  have l2 := HU0.out.x.lt
  have hst : ∀ W, W = ((u0.setCell ⟨w.heap.size + 1 + 1, 0, none⟩ (.slice A0 (edgesL p th).length c0)).setCell ⟨w.heap.size + 1 + 1, 15, none⟩ (.int .i64 (askedN p th))) → ToldSt p w W (#[.slice A0 (edgesL p th).length c0, .slice none 0 0, .slice none 0 0, .slice none 0 0, .slice none 0 0, .slice none 0 0, .slice none 0 0, .slice none 0 0, .slice none 0 0, .slice none 0 0, .slice none 0 0, .slice none 0 0, .slice none 0 0, .slice none 0 0, .slice none 0 0, .int .i64 (askedN p th), .int .i64 0, .int .i64 0, .int .i64 0, .int .i64 0, .int .i64 0, .int .i64 0] : Array Value) ∧ Stp (w.heap.size + 3) u0 W := by
    rintro W rfl
    exact ⟨ToldSt.to ((HU0.out.put 0 (.slice A0 (edgesL p th).length c0)).put 15 (.int .i64 (askedN p th))) (by simp only [List.setIfInBounds_toArray, List.set_cons_zero, List.set_cons_succ]), (((Stp.refl (w.heap.size + 3) u0).put (g := w.heap.size + 1 + 1) (i := 0) (by omega) (.slice A0 (edgesL p th).length c0)).put (g := w.heap.size + 1 + 1) (i := 15) (by omega) (.int .i64 (askedN p th)))⟩
  have HST0 := Lib.hid hst
  clear hst
  go_upto_region 3 with (fail)
  generalize hW : World.setCell _ _ _ = W1
  obtain ⟨h1, h2⟩ := HST0.out W1 hW.symm
  have HT1 := Lib.hid h1
  have HS0 := Lib.hid h2
  have HSS1 := Lib.hid (show W0.heap.size ≤ W1.heap.size from Nat.le_trans (Nat.le_trans (Nat.le_refl _) HB0.out.size) h2.size)
  clear hW h1 h2 HST0 hc0 hf0 hc15 hf15 l0 l2
  have d0 : W1.cell? ⟨w.heap.size, 0, none⟩ = some (.slice p.Av p.vars.length p.cv) := HT1.out.box.cell 0
  have d1 : W1.cell? ⟨w.heap.size, 1, none⟩ = some (.slice p.Ao p.vols.length p.co) := HT1.out.box.cell 1
  have d2 : W1.cell? ⟨w.heap.size, 2, none⟩ = some (.slice p.Al p.locks.length p.cl) := HT1.out.box.cell 2
  have d3 : W1.cell? ⟨w.heap.size, 3, none⟩ = some (.slice p.Ab p.bars.length p.cb) := HT1.out.box.cell 3
  have d4 : W1.cell? ⟨w.heap.size, 4, none⟩ = some (.slice p.At p.threads.length p.ct) := HT1.out.box.cell 4
  have l0 := HT1.out.box.lt
  go_wp2_with fail
  refine (reach_any p th W1 (HE.out.keep HT1.out.below)).mono ?_
  rintro e u1 ⟨A1, c1, rfl, ⟨hr1, hn1⟩, hb⟩
  have HN1 := Lib.hid (hn1.less (B' := w.heap.size + 3) (by have := HSZ.out; have := HSS1.out; omega))
  have HR1 := Lib.hid hr1
  clear hr1 hn1
  have HU1 := Lib.hid (HT1.out.call hb)
  have HB1 := Lib.hid hb
  clear hb
  clear d0 d1 d2 d3 d4 l0
  obtain ⟨z1, hc1⟩ := HU1.out.cell 1 (by omega)
  have hf1 := HU1.out.frozen 1
  obtain ⟨z16, hc16⟩ := HU1.out.cell 16 (by omega)
  have hf16 := HU1.out.frozen 16
  have l0 := HU1.out.box.lt
  have l2 := HU1.out.x.lt
  have hst : ∀ W, W = ((u1.setCell ⟨w.heap.size + 1 + 1, 1, none⟩ (.slice A1 (reachL p th).length c1)).setCell ⟨w.heap.size + 1 + 1, 16, none⟩ (.int .i64 (askedN p th))) → ToldSt p w W (#[.slice A0 (edgesL p th).length c0, .slice A1 (reachL p th).length c1, .slice none 0 0, .slice none 0 0, .slice none 0 0, .slice none 0 0, .slice none 0 0, .slice none 0 0, .slice none 0 0, .slice none 0 0, .slice none 0 0, .slice none 0 0, .slice none 0 0, .slice none 0 0, .slice none 0 0, .int .i64 (askedN p th), .int .i64 (askedN p th), .int .i64 0, .int .i64 0, .int .i64 0, .int .i64 0, .int .i64 0] : Array Value) ∧ Stp (w.heap.size + 3) u1 W := by
    rintro W rfl
    exact ⟨ToldSt.to ((HU1.out.put 1 (.slice A1 (reachL p th).length c1)).put 16 (.int .i64 (askedN p th))) (by simp only [List.setIfInBounds_toArray, List.set_cons_zero, List.set_cons_succ]), (((Stp.refl (w.heap.size + 3) u1).put (g := w.heap.size + 1 + 1) (i := 1) (by omega) (.slice A1 (reachL p th).length c1)).put (g := w.heap.size + 1 + 1) (i := 16) (by omega) (.int .i64 (askedN p th)))⟩
  have HST1 := Lib.hid hst
  clear hst
  go_upto_region 4 with (fail)
  generalize hW : World.setCell _ _ _ = W2
  obtain ⟨h1, h2⟩ := HST1.out W2 hW.symm
  have HT2 := Lib.hid h1
  have HS1 := Lib.hid h2
  have HSS2 := Lib.hid (show W0.heap.size ≤ W2.heap.size from Nat.le_trans (Nat.le_trans HSS1.out HB1.out.size) h2.size)
  clear hW h1 h2 HST1 hc1 hf1 hc16 hf16 l0 l2
  have d0 : W2.cell? ⟨w.heap.size, 0, none⟩ = some (.slice p.Av p.vars.length p.cv) := HT2.out.box.cell 0
  have d1 : W2.cell? ⟨w.heap.size, 1, none⟩ = some (.slice p.Ao p.vols.length p.co) := HT2.out.box.cell 1
  have d2 : W2.cell? ⟨w.heap.size, 2, none⟩ = some (.slice p.Al p.locks.length p.cl) := HT2.out.box.cell 2
  have d3 : W2.cell? ⟨w.heap.size, 3, none⟩ = some (.slice p.Ab p.bars.length p.cb) := HT2.out.box.cell 3
  have d4 : W2.cell? ⟨w.heap.size, 4, none⟩ = some (.slice p.At p.threads.length p.ct) := HT2.out.box.cell 4
  have l0 := HT2.out.box.lt
  go_wp2_with fail
  refine (touchesP_any p th W2 (HE.out.keep HT2.out.below)).mono ?_
  rintro e u2 ⟨A6, c6, rfl, ⟨hr6, hn6⟩, hb⟩
  have HN6 := Lib.hid (hn6.less (B' := w.heap.size + 3) (by have := HSZ.out; have := HSS2.out; omega))
  have HR6 := Lib.hid hr6
  clear hr6 hn6
  have HU2 := Lib.hid (HT2.out.call hb)
  have HB2 := Lib.hid hb
  clear hb
  clear d0 d1 d2 d3 d4 l0
  obtain ⟨z6, hc6⟩ := HU2.out.cell 6 (by omega)
  have hf6 := HU2.out.frozen 6
  obtain ⟨z7, hc7⟩ := HU2.out.cell 7 (by omega)
  have hf7 := HU2.out.frozen 7
  obtain ⟨z8, hc8⟩ := HU2.out.cell 8 (by omega)
  have hf8 := HU2.out.frozen 8
  obtain ⟨z9, hc9⟩ := HU2.out.cell 9 (by omega)
  have hf9 := HU2.out.frozen 9
  obtain ⟨z10, hc10⟩ := HU2.out.cell 10 (by omega)
  have hf10 := HU2.out.frozen 10
  obtain ⟨z11, hc11⟩ := HU2.out.cell 11 (by omega)
  have hf11 := HU2.out.frozen 11
  obtain ⟨z12, hc12⟩ := HU2.out.cell 12 (by omega)
  have hf12 := HU2.out.frozen 12
  obtain ⟨z13, hc13⟩ := HU2.out.cell 13 (by omega)
  have hf13 := HU2.out.frozen 13
  obtain ⟨z14, hc14⟩ := HU2.out.cell 14 (by omega)
  have hf14 := HU2.out.frozen 14
  obtain ⟨z17, hc17⟩ := HU2.out.cell 17 (by omega)
  have hf17 := HU2.out.frozen 17
  have l0 := HU2.out.box.lt
  have l2 := HU2.out.x.lt
  unfold touchV
  have hst : ∀ W, W = ((((((((((u2.setCell ⟨w.heap.size + 1 + 1, 6, none⟩ (.slice (A6 0) (touchesL p th 0).length (c6 0))).setCell ⟨w.heap.size + 1 + 1, 7, none⟩ (.slice (A6 1) (touchesL p th 1).length (c6 1))).setCell ⟨w.heap.size + 1 + 1, 8, none⟩ (.slice (A6 2) (touchesL p th 2).length (c6 2))).setCell ⟨w.heap.size + 1 + 1, 9, none⟩ (.slice (A6 3) (touchesL p th 3).length (c6 3))).setCell ⟨w.heap.size + 1 + 1, 10, none⟩ (.slice (A6 4) (touchesL p th 4).length (c6 4))).setCell ⟨w.heap.size + 1 + 1, 11, none⟩ (.slice (A6 5) (touchesL p th 5).length (c6 5))).setCell ⟨w.heap.size + 1 + 1, 12, none⟩ (.slice (A6 6) (touchesL p th 6).length (c6 6))).setCell ⟨w.heap.size + 1 + 1, 13, none⟩ (.slice (A6 7) (touchesL p th 7).length (c6 7))).setCell ⟨w.heap.size + 1 + 1, 14, none⟩ (.slice (A6 8) (touchesL p th 8).length (c6 8))).setCell ⟨w.heap.size + 1 + 1, 17, none⟩ (.int .i64 (askedN p th))) → ToldSt p w W (#[.slice A0 (edgesL p th).length c0, .slice A1 (reachL p th).length c1, .slice none 0 0, .slice none 0 0, .slice none 0 0, .slice none 0 0, .slice (A6 0) (touchesL p th 0).length (c6 0), .slice (A6 1) (touchesL p th 1).length (c6 1), .slice (A6 2) (touchesL p th 2).length (c6 2), .slice (A6 3) (touchesL p th 3).length (c6 3), .slice (A6 4) (touchesL p th 4).length (c6 4), .slice (A6 5) (touchesL p th 5).length (c6 5), .slice (A6 6) (touchesL p th 6).length (c6 6), .slice (A6 7) (touchesL p th 7).length (c6 7), .slice (A6 8) (touchesL p th 8).length (c6 8), .int .i64 (askedN p th), .int .i64 (askedN p th), .int .i64 (askedN p th), .int .i64 0, .int .i64 0, .int .i64 0, .int .i64 0] : Array Value) ∧ Stp (w.heap.size + 3) u2 W := by
    rintro W rfl
    exact ⟨ToldSt.to ((((((((((HU2.out.put 6 (.slice (A6 0) (touchesL p th 0).length (c6 0))).put 7 (.slice (A6 1) (touchesL p th 1).length (c6 1))).put 8 (.slice (A6 2) (touchesL p th 2).length (c6 2))).put 9 (.slice (A6 3) (touchesL p th 3).length (c6 3))).put 10 (.slice (A6 4) (touchesL p th 4).length (c6 4))).put 11 (.slice (A6 5) (touchesL p th 5).length (c6 5))).put 12 (.slice (A6 6) (touchesL p th 6).length (c6 6))).put 13 (.slice (A6 7) (touchesL p th 7).length (c6 7))).put 14 (.slice (A6 8) (touchesL p th 8).length (c6 8))).put 17 (.int .i64 (askedN p th))) (by simp only [List.setIfInBounds_toArray, List.set_cons_zero, List.set_cons_succ]), (((((((((((Stp.refl (w.heap.size + 3) u2).put (g := w.heap.size + 1 + 1) (i := 6) (by omega) (.slice (A6 0) (touchesL p th 0).length (c6 0))).put (g := w.heap.size + 1 + 1) (i := 7) (by omega) (.slice (A6 1) (touchesL p th 1).length (c6 1))).put (g := w.heap.size + 1 + 1) (i := 8) (by omega) (.slice (A6 2) (touchesL p th 2).length (c6 2))).put (g := w.heap.size + 1 + 1) (i := 9) (by omega) (.slice (A6 3) (touchesL p th 3).length (c6 3))).put (g := w.heap.size + 1 + 1) (i := 10) (by omega) (.slice (A6 4) (touchesL p th 4).length (c6 4))).put (g := w.heap.size + 1 + 1) (i := 11) (by omega) (.slice (A6 5) (touchesL p th 5).length (c6 5))).put (g := w.heap.size + 1 + 1) (i := 12) (by omega) (.slice (A6 6) (touchesL p th 6).length (c6 6))).put (g := w.heap.size + 1 + 1) (i := 13) (by omega) (.slice (A6 7) (touchesL p th 7).length (c6 7))).put (g := w.heap.size + 1 + 1) (i := 14) (by omega) (.slice (A6 8) (touchesL p th 8).length (c6 8))).put (g := w.heap.size + 1 + 1) (i := 17) (by omega) (.int .i64 (askedN p th)))⟩
  have HST2 := Lib.hid hst
  clear hst
  go_upto_region 5 with (fail)
  generalize hW : World.setCell _ _ _ = W3
  obtain ⟨h1, h2⟩ := HST2.out W3 hW.symm
  have HT3 := Lib.hid h1
  have HS2 := Lib.hid h2
  have HSS3 := Lib.hid (show W0.heap.size ≤ W3.heap.size from Nat.le_trans (Nat.le_trans HSS2.out HB2.out.size) h2.size)
  clear hW h1 h2 HST2 hc6 hf6 hc7 hf7 hc8 hf8 hc9 hf9 hc10 hf10 hc11 hf11 hc12 hf12 hc13 hf13 hc14 hf14 hc17 hf17 l0 l2
  have d0 : W3.cell? ⟨w.heap.size, 0, none⟩ = some (.slice p.Av p.vars.length p.cv) := HT3.out.box.cell 0
  have d1 : W3.cell? ⟨w.heap.size, 1, none⟩ = some (.slice p.Ao p.vols.length p.co) := HT3.out.box.cell 1
  have d2 : W3.cell? ⟨w.heap.size, 2, none⟩ = some (.slice p.Al p.locks.length p.cl) := HT3.out.box.cell 2
  have d3 : W3.cell? ⟨w.heap.size, 3, none⟩ = some (.slice p.Ab p.bars.length p.cb) := HT3.out.box.cell 3
  have d4 : W3.cell? ⟨w.heap.size, 4, none⟩ = some (.slice p.At p.threads.length p.ct) := HT3.out.box.cell 4
  have l0 := HT3.out.box.lt
  go_wp2_with fail
  refine (startedL_any p W3 (HE.out.keep HT3.out.below)).mono ?_
  rintro e u3 ⟨A2, c2, rfl, ⟨hr2, hn2⟩, hb⟩
  have HN2 := Lib.hid (hn2.less (B' := w.heap.size + 3) (by have := HSZ.out; have := HSS3.out; omega))
  have HR2 := Lib.hid hr2
  clear hr2 hn2
  have HU3 := Lib.hid (HT3.out.call hb)
  have HB3 := Lib.hid hb
  clear hb
  clear d0 d1 d2 d3 d4 l0
  obtain ⟨z2, hc2⟩ := HU3.out.cell 2 (by omega)
  have hf2 := HU3.out.frozen 2
  obtain ⟨z18, hc18⟩ := HU3.out.cell 18 (by omega)
  have hf18 := HU3.out.frozen 18
  have l0 := HU3.out.box.lt
  have l2 := HU3.out.x.lt
  have hst : ∀ W, W = ((u3.setCell ⟨w.heap.size + 1 + 1, 2, none⟩ (.slice A2 (startL p).length c2)).setCell ⟨w.heap.size + 1 + 1, 18, none⟩ (.int .i64 (askedN p 0))) → ToldSt p w W (#[.slice A0 (edgesL p th).length c0, .slice A1 (reachL p th).length c1, .slice A2 (startL p).length c2, .slice none 0 0, .slice none 0 0, .slice none 0 0, .slice (A6 0) (touchesL p th 0).length (c6 0), .slice (A6 1) (touchesL p th 1).length (c6 1), .slice (A6 2) (touchesL p th 2).length (c6 2), .slice (A6 3) (touchesL p th 3).length (c6 3), .slice (A6 4) (touchesL p th 4).length (c6 4), .slice (A6 5) (touchesL p th 5).length (c6 5), .slice (A6 6) (touchesL p th 6).length (c6 6), .slice (A6 7) (touchesL p th 7).length (c6 7), .slice (A6 8) (touchesL p th 8).length (c6 8), .int .i64 (askedN p th), .int .i64 (askedN p th), .int .i64 (askedN p th), .int .i64 (askedN p 0), .int .i64 0, .int .i64 0, .int .i64 0] : Array Value) ∧ Stp (w.heap.size + 3) u3 W := by
    rintro W rfl
    exact ⟨ToldSt.to ((HU3.out.put 2 (.slice A2 (startL p).length c2)).put 18 (.int .i64 (askedN p 0))) (by simp only [List.setIfInBounds_toArray, List.set_cons_zero, List.set_cons_succ]), (((Stp.refl (w.heap.size + 3) u3).put (g := w.heap.size + 1 + 1) (i := 2) (by omega) (.slice A2 (startL p).length c2)).put (g := w.heap.size + 1 + 1) (i := 18) (by omega) (.int .i64 (askedN p 0)))⟩
  have HST3 := Lib.hid hst
  clear hst
  go_upto_region 6 with (fail)
  generalize hW : World.setCell _ _ _ = W4
  obtain ⟨h1, h2⟩ := HST3.out W4 hW.symm
  have HT4 := Lib.hid h1
  have HS3 := Lib.hid h2
  have HSS4 := Lib.hid (show W0.heap.size ≤ W4.heap.size from Nat.le_trans (Nat.le_trans HSS3.out HB3.out.size) h2.size)
  clear hW h1 h2 HST3 hc2 hf2 hc18 hf18 l0 l2
  have d0 : W4.cell? ⟨w.heap.size, 0, none⟩ = some (.slice p.Av p.vars.length p.cv) := HT4.out.box.cell 0
  have d1 : W4.cell? ⟨w.heap.size, 1, none⟩ = some (.slice p.Ao p.vols.length p.co) := HT4.out.box.cell 1
  have d2 : W4.cell? ⟨w.heap.size, 2, none⟩ = some (.slice p.Al p.locks.length p.cl) := HT4.out.box.cell 2
  have d3 : W4.cell? ⟨w.heap.size, 3, none⟩ = some (.slice p.Ab p.bars.length p.cb) := HT4.out.box.cell 3
  have d4 : W4.cell? ⟨w.heap.size, 4, none⟩ = some (.slice p.At p.threads.length p.ct) := HT4.out.box.cell 4
  have l0 := HT4.out.box.lt
  go_wp2_with fail
  refine (surely_any p th W4 (HE.out.keep HT4.out.below)).mono ?_
  rintro e u4 ⟨A4, c4, ls4, rfl, hh4, hr4, hb⟩
  have HH4 := Lib.hid hh4
  clear hh4
  have HR4 := Lib.hid (hr4.less (B' := w.heap.size + 3) (by have := HSZ.out; have := HSS4.out; omega))
  clear hr4
  have HU4 := Lib.hid (HT4.out.call hb)
  have HB4 := Lib.hid hb
  clear hb
  clear d0 d1 d2 d3 d4 l0
  obtain ⟨z4, hc4⟩ := HU4.out.cell 4 (by omega)
  have hf4 := HU4.out.frozen 4
  obtain ⟨z19, hc19⟩ := HU4.out.cell 19 (by omega)
  have hf19 := HU4.out.frozen 19
  have l0 := HU4.out.box.lt
  have l2 := HU4.out.x.lt
  have hst : ∀ W, W = ((u4.setCell ⟨w.heap.size + 1 + 1, 4, none⟩ (.slice A4 ls4.length c4)).setCell ⟨w.heap.size + 1 + 1, 19, none⟩ (.int .i64 (askedN p th))) → ToldSt p w W (#[.slice A0 (edgesL p th).length c0, .slice A1 (reachL p th).length c1, .slice A2 (startL p).length c2, .slice none 0 0, .slice A4 ls4.length c4, .slice none 0 0, .slice (A6 0) (touchesL p th 0).length (c6 0), .slice (A6 1) (touchesL p th 1).length (c6 1), .slice (A6 2) (touchesL p th 2).length (c6 2), .slice (A6 3) (touchesL p th 3).length (c6 3), .slice (A6 4) (touchesL p th 4).length (c6 4), .slice (A6 5) (touchesL p th 5).length (c6 5), .slice (A6 6) (touchesL p th 6).length (c6 6), .slice (A6 7) (touchesL p th 7).length (c6 7), .slice (A6 8) (touchesL p th 8).length (c6 8), .int .i64 (askedN p th), .int .i64 (askedN p th), .int .i64 (askedN p th), .int .i64 (askedN p 0), .int .i64 (askedN p th), .int .i64 0, .int .i64 0] : Array Value) ∧ Stp (w.heap.size + 3) u4 W := by
    rintro W rfl
    exact ⟨ToldSt.to ((HU4.out.put 4 (.slice A4 ls4.length c4)).put 19 (.int .i64 (askedN p th))) (by simp only [List.setIfInBounds_toArray, List.set_cons_zero, List.set_cons_succ]), (((Stp.refl (w.heap.size + 3) u4).put (g := w.heap.size + 1 + 1) (i := 4) (by omega) (.slice A4 ls4.length c4)).put (g := w.heap.size + 1 + 1) (i := 19) (by omega) (.int .i64 (askedN p th)))⟩
  have HST4 := Lib.hid hst
  clear hst
  go_upto_region 7 with (fail)
  generalize hW : World.setCell _ _ _ = W5
  obtain ⟨h1, h2⟩ := HST4.out W5 hW.symm
  have HT5 := Lib.hid h1
  have HS4 := Lib.hid h2
  have HSS5 := Lib.hid (show W0.heap.size ≤ W5.heap.size from Nat.le_trans (Nat.le_trans HSS4.out HB4.out.size) h2.size)
  clear hW h1 h2 HST4 hc4 hf4 hc19 hf19 l0 l2
  have d0 : W5.cell? ⟨w.heap.size, 0, none⟩ = some (.slice p.Av p.vars.length p.cv) := HT5.out.box.cell 0
  have d1 : W5.cell? ⟨w.heap.size, 1, none⟩ = some (.slice p.Ao p.vols.length p.co) := HT5.out.box.cell 1
  have d2 : W5.cell? ⟨w.heap.size, 2, none⟩ = some (.slice p.Al p.locks.length p.cl) := HT5.out.box.cell 2
  have d3 : W5.cell? ⟨w.heap.size, 3, none⟩ = some (.slice p.Ab p.bars.length p.cb) := HT5.out.box.cell 3
  have d4 : W5.cell? ⟨w.heap.size, 4, none⟩ = some (.slice p.At p.threads.length p.ct) := HT5.out.box.cell 4
  have l0 := HT5.out.box.lt
  go_wp2_with fail
  refine (perhaps_any p th W5 (HE.out.keep HT5.out.below)).mono ?_
  rintro e u5 ⟨A5, c5, ls5, rfl, hh5, hr5, hb⟩
  have HH5 := Lib.hid hh5
  clear hh5
  have HR5 := Lib.hid (hr5.less (B' := w.heap.size + 3) (by have := HSZ.out; have := HSS5.out; omega))
  clear hr5
  have HU5 := Lib.hid (HT5.out.call hb)
  have HB5 := Lib.hid hb
  clear hb
  clear d0 d1 d2 d3 d4 l0
  obtain ⟨z5, hc5⟩ := HU5.out.cell 5 (by omega)
  have hf5 := HU5.out.frozen 5
  obtain ⟨z20, hc20⟩ := HU5.out.cell 20 (by omega)
  have hf20 := HU5.out.frozen 20
  have l0 := HU5.out.box.lt
  have l2 := HU5.out.x.lt
  have hst : ∀ W, W = ((u5.setCell ⟨w.heap.size + 1 + 1, 5, none⟩ (.slice A5 ls5.length c5)).setCell ⟨w.heap.size + 1 + 1, 20, none⟩ (.int .i64 (askedN p th))) → ToldSt p w W (#[.slice A0 (edgesL p th).length c0, .slice A1 (reachL p th).length c1, .slice A2 (startL p).length c2, .slice none 0 0, .slice A4 ls4.length c4, .slice A5 ls5.length c5, .slice (A6 0) (touchesL p th 0).length (c6 0), .slice (A6 1) (touchesL p th 1).length (c6 1), .slice (A6 2) (touchesL p th 2).length (c6 2), .slice (A6 3) (touchesL p th 3).length (c6 3), .slice (A6 4) (touchesL p th 4).length (c6 4), .slice (A6 5) (touchesL p th 5).length (c6 5), .slice (A6 6) (touchesL p th 6).length (c6 6), .slice (A6 7) (touchesL p th 7).length (c6 7), .slice (A6 8) (touchesL p th 8).length (c6 8), .int .i64 (askedN p th), .int .i64 (askedN p th), .int .i64 (askedN p th), .int .i64 (askedN p 0), .int .i64 (askedN p th), .int .i64 (askedN p th), .int .i64 0] : Array Value) ∧ Stp (w.heap.size + 3) u5 W := by
    rintro W rfl
    exact ⟨ToldSt.to ((HU5.out.put 5 (.slice A5 ls5.length c5)).put 20 (.int .i64 (askedN p th))) (by simp only [List.setIfInBounds_toArray, List.set_cons_zero, List.set_cons_succ]), (((Stp.refl (w.heap.size + 3) u5).put (g := w.heap.size + 1 + 1) (i := 5) (by omega) (.slice A5 ls5.length c5)).put (g := w.heap.size + 1 + 1) (i := 20) (by omega) (.int .i64 (askedN p th)))⟩
  have HST5 := Lib.hid hst
  clear hst
  go_upto_region 8 with (fail)
  generalize hW : World.setCell _ _ _ = W6
  obtain ⟨h1, h2⟩ := HST5.out W6 hW.symm
  have HT6 := Lib.hid h1
  have HS5 := Lib.hid h2
  have HSS6 := Lib.hid (show W0.heap.size ≤ W6.heap.size from Nat.le_trans (Nat.le_trans HSS5.out HB5.out.size) h2.size)
  clear hW h1 h2 HST5 hc5 hf5 hc20 hf20 l0 l2
  have d0 : W6.cell? ⟨w.heap.size, 0, none⟩ = some (.slice p.Av p.vars.length p.cv) := HT6.out.box.cell 0
  have d1 : W6.cell? ⟨w.heap.size, 1, none⟩ = some (.slice p.Ao p.vols.length p.co) := HT6.out.box.cell 1
  have d2 : W6.cell? ⟨w.heap.size, 2, none⟩ = some (.slice p.Al p.locks.length p.cl) := HT6.out.box.cell 2
  have d3 : W6.cell? ⟨w.heap.size, 3, none⟩ = some (.slice p.Ab p.bars.length p.cb) := HT6.out.box.cell 3
  have d4 : W6.cell? ⟨w.heap.size, 4, none⟩ = some (.slice p.At p.threads.length p.ct) := HT6.out.box.cell 4
  have l0 := HT6.out.box.lt
  go_wp2_with fail
  refine (alone_any p W6 (HE.out.keep HT6.out.below)).mono ?_
  rintro e u6 ⟨A3, c3, rfl, ⟨hr3, hn3⟩, hb⟩
  have HN3 := Lib.hid (hn3.less (B' := w.heap.size + 3) (by have := HSZ.out; have := HSS6.out; omega))
  have HR3 := Lib.hid hr3
  clear hr3 hn3
  have HU6 := Lib.hid (HT6.out.call hb)
  have HB6 := Lib.hid hb
  clear hb
  clear d0 d1 d2 d3 d4 l0
  obtain ⟨z3, hc3⟩ := HU6.out.cell 3 (by omega)
  have hf3 := HU6.out.frozen 3
  obtain ⟨z21, hc21⟩ := HU6.out.cell 21 (by omega)
  have hf21 := HU6.out.frozen 21
  have l0 := HU6.out.box.lt
  have l2 := HU6.out.x.lt
  have hst : ∀ W, W = ((u6.setCell ⟨w.heap.size + 1 + 1, 3, none⟩ (.slice A3 (aloneL p).length c3)).setCell ⟨w.heap.size + 1 + 1, 21, none⟩ (.int .i64 (askedN p 0))) → ToldSt p w W (#[.slice A0 (edgesL p th).length c0, .slice A1 (reachL p th).length c1, .slice A2 (startL p).length c2, .slice A3 (aloneL p).length c3, .slice A4 ls4.length c4, .slice A5 ls5.length c5, .slice (A6 0) (touchesL p th 0).length (c6 0), .slice (A6 1) (touchesL p th 1).length (c6 1), .slice (A6 2) (touchesL p th 2).length (c6 2), .slice (A6 3) (touchesL p th 3).length (c6 3), .slice (A6 4) (touchesL p th 4).length (c6 4), .slice (A6 5) (touchesL p th 5).length (c6 5), .slice (A6 6) (touchesL p th 6).length (c6 6), .slice (A6 7) (touchesL p th 7).length (c6 7), .slice (A6 8) (touchesL p th 8).length (c6 8), .int .i64 (askedN p th), .int .i64 (askedN p th), .int .i64 (askedN p th), .int .i64 (askedN p 0), .int .i64 (askedN p th), .int .i64 (askedN p th), .int .i64 (askedN p 0)] : Array Value) ∧ Stp (w.heap.size + 3) u6 W := by
    rintro W rfl
    exact ⟨ToldSt.to ((HU6.out.put 3 (.slice A3 (aloneL p).length c3)).put 21 (.int .i64 (askedN p 0))) (by simp only [List.setIfInBounds_toArray, List.set_cons_zero, List.set_cons_succ]), (((Stp.refl (w.heap.size + 3) u6).put (g := w.heap.size + 1 + 1) (i := 3) (by omega) (.slice A3 (aloneL p).length c3)).put (g := w.heap.size + 1 + 1) (i := 21) (by omega) (.int .i64 (askedN p 0)))⟩
  have HST6 := Lib.hid hst
  clear hst
  go_upto_region 9 with (fail)
  generalize hW : World.setCell _ _ _ = W7
  obtain ⟨h1, h2⟩ := HST6.out W7 hW.symm
  have HT7 := Lib.hid h1
  have HS6 := Lib.hid h2
  clear hW h1 h2 HST6
  obtain ⟨zs, z1, z2⟩ := HT7.out.res
  refine wp_region_lit (l := [_, _]) ?_
  refine wpList_load_row rfl 44 (.tmp 5) rfl (w.heap.size + 1 + 1) rfl 44 #[.slice A0 (edgesL p th).length c0, .slice A1 (reachL p th).length c1, .slice A2 (startL p).length c2, .slice A3 (aloneL p).length c3, .slice A4 ls4.length c4, .slice A5 ls5.length c5, .slice (A6 0) (touchesL p th 0).length (c6 0), .slice (A6 1) (touchesL p th 1).length (c6 1), .slice (A6 2) (touchesL p th 2).length (c6 2), .slice (A6 3) (touchesL p th 3).length (c6 3), .slice (A6 4) (touchesL p th 4).length (c6 4), .slice (A6 5) (touchesL p th 5).length (c6 5), .slice (A6 6) (touchesL p th 6).length (c6 6), .slice (A6 7) (touchesL p th 7).length (c6 7), .slice (A6 8) (touchesL p th 8).length (c6 8), .int .i64 (askedN p th), .int .i64 (askedN p th), .int .i64 (askedN p th), .int .i64 (askedN p 0), .int .i64 (askedN p th), .int .i64 (askedN p th), .int .i64 (askedN p 0)] (0, 0) _ HT7.out.x Tryz.underlying44 rfl size_told ?_
  refine wpList_store_row rfl 44 (.tmp 4) (.tmp 67) rfl (w.heap.size + 1) #[.slice A0 (edgesL p th).length c0, .slice A1 (reachL p th).length c1, .slice A2 (startL p).length c2, .slice A3 (aloneL p).length c3, .slice A4 ls4.length c4, .slice A5 ls5.length c5, .slice (A6 0) (touchesL p th 0).length (c6 0), .slice (A6 1) (touchesL p th 1).length (c6 1), .slice (A6 2) (touchesL p th 2).length (c6 2), .slice (A6 3) (touchesL p th 3).length (c6 3), .slice (A6 4) (touchesL p th 4).length (c6 4), .slice (A6 5) (touchesL p th 5).length (c6 5), .slice (A6 6) (touchesL p th 6).length (c6 6), .slice (A6 7) (touchesL p th 7).length (c6 7), .slice (A6 8) (touchesL p th 8).length (c6 8), .int .i64 (askedN p th), .int .i64 (askedN p th), .int .i64 (askedN p th), .int .i64 (askedN p 0), .int .i64 (askedN p th), .int .i64 (askedN p th), .int .i64 (askedN p 0)] rfl rfl 44 zs z2 size_told z1 (by simp [Value.oneCell']) ?_
  have hff := setRow_foot W7 (w.heap.size + 1) #[.slice A0 (edgesL p th).length c0, .slice A1 (reachL p th).length c1, .slice A2 (startL p).length c2, .slice A3 (aloneL p).length c3, .slice A4 ls4.length c4, .slice A5 ls5.length c5, .slice (A6 0) (touchesL p th 0).length (c6 0), .slice (A6 1) (touchesL p th 1).length (c6 1), .slice (A6 2) (touchesL p th 2).length (c6 2), .slice (A6 3) (touchesL p th 3).length (c6 3), .slice (A6 4) (touchesL p th 4).length (c6 4), .slice (A6 5) (touchesL p th 5).length (c6 5), .slice (A6 6) (touchesL p th 6).length (c6 6), .slice (A6 7) (touchesL p th 7).length (c6 7), .slice (A6 8) (touchesL p th 8).length (c6 8), .int .i64 (askedN p th), .int .i64 (askedN p th), .int .i64 (askedN p th), .int .i64 (askedN p 0), .int .i64 (askedN p th), .int .i64 (askedN p th), .int .i64 (askedN p 0)]
  have hfb := setRow_blk z2 #[.slice A0 (edgesL p th).length c0, .slice A1 (reachL p th).length c1, .slice A2 (startL p).length c2, .slice A3 (aloneL p).length c3, .slice A4 ls4.length c4, .slice A5 ls5.length c5, .slice (A6 0) (touchesL p th 0).length (c6 0), .slice (A6 1) (touchesL p th 1).length (c6 1), .slice (A6 2) (touchesL p th 2).length (c6 2), .slice (A6 3) (touchesL p th 3).length (c6 3), .slice (A6 4) (touchesL p th 4).length (c6 4), .slice (A6 5) (touchesL p th 5).length (c6 5), .slice (A6 6) (touchesL p th 6).length (c6 6), .slice (A6 7) (touchesL p th 7).length (c6 7), .slice (A6 8) (touchesL p th 8).length (c6 8), .int .i64 (askedN p th), .int .i64 (askedN p th), .int .i64 (askedN p th), .int .i64 (askedN p 0), .int .i64 (askedN p th), .int .i64 (askedN p th), .int .i64 (askedN p 0)]
  generalize hV : World.setRow _ _ _ = W8 at hff hfb ⊢
  clear hV
  go_wp2_with fail
  have T6 := HS6.out.trans (Stp.of_foot (B := w.heap.size + 3) hff (by omega))
  have T5 := (HS5.out.trans (Stp.of_below HB6.out)).trans T6
  have T4 := (HS4.out.trans (Stp.of_below HB5.out)).trans T5
  have T3 := (HS3.out.trans (Stp.of_below HB4.out)).trans T4
  have T2 := (HS2.out.trans (Stp.of_below HB3.out)).trans T3
  have T1 := (HS1.out.trans (Stp.of_below HB2.out)).trans T2
  have T0 := (HS0.out.trans (Stp.of_below HB1.out)).trans T1
  refine bodyPost_ret (v := .agg #[.slice A0 (edgesL p th).length c0, .slice A1 (reachL p th).length c1, .slice A2 (startL p).length c2, .slice A3 (aloneL p).length c3, .slice A4 ls4.length c4, .slice A5 ls5.length c5, .slice (A6 0) (touchesL p th 0).length (c6 0), .slice (A6 1) (touchesL p th 1).length (c6 1), .slice (A6 2) (touchesL p th 2).length (c6 2), .slice (A6 3) (touchesL p th 3).length (c6 3), .slice (A6 4) (touchesL p th 4).length (c6 4), .slice (A6 5) (touchesL p th 5).length (c6 5), .slice (A6 6) (touchesL p th 6).length (c6 6), .slice (A6 7) (touchesL p th 7).length (c6 7), .slice (A6 8) (touchesL p th 8).length (c6 8), .int .i64 (askedN p th), .int .i64 (askedN p th), .int .i64 (askedN p th), .int .i64 (askedN p 0), .int .i64 (askedN p th), .int .i64 (askedN p th), .int .i64 (askedN p 0)]) ?_ rfl ?_
  · exact results_cell (p := 4) rfl _ _ (w.heap.size + 1) 44 _ (0, 0) _ (by rfl) hfb Tryz.underlying44 rfl size_told
  exact ⟨fun k => match k with | 0 => A0 | 1 => A1 | 2 => A2 | 3 => A3 | 4 => A4 | _ => A5, fun k => match k with | 0 => c0 | 1 => c1 | 2 => c2 | 3 => c3 | 4 => c4 | _ => c5, A6, c6, ls4, ls5, rfl, ⟨HR0.out.stp HN0.out T0, HR1.out.stp HN1.out T1, HR2.out.stp HN2.out T3, (HR4.out.stp T4).ll, (HR5.out.stp T5).ll, HR6.out.stp HN6.out T2, HH4.out, HH5.out⟩, HT7.out.below.trans ((hff.mono (Q := fun i => w.heap.size ≤ i) (fun i _ e => by omega)).below HT7.out.below.size)⟩
end Go.Proofs.YtgdnpmpnkbnjaaaGreatDoor
