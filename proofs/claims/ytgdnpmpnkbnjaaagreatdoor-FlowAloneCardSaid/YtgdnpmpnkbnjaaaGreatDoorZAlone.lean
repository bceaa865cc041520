/- Contract of flow.Alone. Conditions: those of asked. -/
import Derived.Test.YtgdnpmpnkbnjaaaGreatDoorZAloneP
import Derived.Test.YtgdnpmpnkbnjaaaGreatDoorZJ
import Derived.Maps.AppendAt
import Derived.RangeFuncBox
namespace Go.Proofs.YtgdnpmpnkbnjaaaGreatDoor
open Go.RowKit Go.Shelf
attribute [local go_sem] Oper.semAt_some
theorem wpIn_frame {F : Fence} {n : Nat} {P : Program} {c : Code} {Q : Exit → Act → World → Prop} {a : Act} {w : World} (fr : (Nat → Value) → Act) (h : a = fr (fun i => a.tmps.getD i undef)) (hk : ∀ u, c.wpIn F n P Q (fr u) w) : c.wpIn F n P Q a w := by
  rw [h]
  exact hk _
def AloneR (p : Prg) (w : World) (e : Ending) (w' : World) : Prop :=
  ∃ A c, e = .returned (.tuple #[.slice A (aloneL p).length c, .int .i64 (askedN p 0)]) ∧ (RdL encM 1 w' w'.heap.size A (aloneL p) ∧ NewA w.heap.size A) ∧ Below w.heap.size w w'
set_option maxRecDepth 100000 in
set_option maxHeartbeats 4000000 in
theorem alone_in (p : Prg) (w : World) (hE : Env p w) (ha : askedN p 0 = 0) :
    CallsIn Fence.wide 5 Tryz.prog 5 #[p.val] w (AloneR p w) := by
  have HE := Lib.hid hE; clear hE
  have HA := Lib.hid ha; clear ha
  have hb0 : Hid (Below w.heap.size w (w.alloc (.cells p.cells 27))) := Lib.hid (by go_grown)
  have hbx : Hid (Blk (w.alloc (.cells p.cells 27)) w.heap.size 27 p.cells) := Lib.hid (Blk.new w _ _)
  have hle := HE.out.fits.vars
  refine callsIn_of_wp_marks Tryz.func5 rfl trivial ?_ rfl
  unfold Prg.val
  simp only [Tryz.ntmps5, List.size_toArray, List.length_cons, List.length_nil, Nat.reduceAdd, Nat.reduceSub, Array.replicate_succ, Array.replicate_zero, List.push_toArray, List.append_toArray, List.nil_append, List.cons_append]
  gi_wp2_with (refine ⟨trivial, ?_⟩; gi_at_call 12; refine (callsIn_wide.2 (asked_any p 0 (w.alloc (.cells p.cells 27)) (HE.out.keep hb0.out))).mono ?_; rintro e w1 ⟨rfl, hb⟩; have HB := Lib.hid (hb0.out.trans (hb.mono (by simp))); have HBX := Lib.hid (hbx.out.below hb (by simp)); clear hb; rw [HA.out]; have d0 : w1.cell? ⟨w.heap.size, 0, none⟩ = some (.slice p.Av p.vars.length p.cv) := HBX.out.cell 0; have hlx := HBX.out.lt)
  obtain ⟨i0, hi0, iz0, iz1, iz2⟩ := info_parts info_int
  have hvl : p.vars.length ≤ 4096 := by
    obtain ⟨hck, _⟩ := asked_ok HA.out
    exact (good_of hck).vars
  obtain ⟨Z, hZ⟩ : ∃ Z, Z = madeCells (Value.int .i64 0).cells (p.vars.length * 1) := ⟨_, rfl⟩
  have hmk : ∀ W : World, (Instr.makeSlice 28 (.int .i64 (p.vars.length : Int)) (.int .i64 (p.vars.length : Int))).run Tryz.prog W = .ok (.slice (some ⟨W.heap.size, 0, none⟩) p.vars.length p.vars.length) (W.alloc (.cells Z 3)) := fun W => by
    have hr := run_make (P := Tryz.prog) W 28 3 i0 _ Tryz.underlying28 hi0 iz0 .i64 .i64 p.vars.length p.vars.length (by omega) (Int.le_refl _) (by rw [iz2]; omega) (by omega)
    simp only [Int.toNat_natCast] at hr
    rw [hr, hZ, iz1]
  have HZ := Lib.hid hZ
  clear hZ
  have hnew := World.new_ne w1 _ d0
  refine wpIn_wide.2 ?_
  refine Code.wp_mono (Q := AlonePost p w.heap.size w1 Z) (fun e a' W hq => ?_) ?region
  case region =>
    go_region_held3 (fun W => W.cell? ⟨w.heap.size, 0, none⟩ = some (.slice p.Av p.vars.length p.cv)) ((repeat' (first | exact d0 | (with_reducible refine keepDrew ?_) | (with_reducible refine keepAlloc ?_) | (with_reducible refine keepSet ?_ ?_) | (simp; omega)))) ((fail))
    all_goals
      show AloneInit _ _ _ _ _ _
      refine AloneInit.of rfl ?_ ?_ ?_ ?_ ?_ ?_ ?_ ?_
      · refine Below.drew ?_
        exact ((((Below.refl _ _).alloc (Nat.le_refl _) _).alloc (by simp) _).alloc (by simp; omega) _).alloc (by simp; omega) _
      · (repeat' (first | (refine Blk.moved (Blk.new _ _ _) ?_; (first | rfl | (simp only [World.size_alloc]; done))) | refine Blk.drew ?_ | refine Blk.alloc ?_ _))
      · (repeat' (first | (refine Blk.moved (Blk.new _ _ _) ?_; (first | rfl | (simp only [World.size_alloc]; done))) | refine Blk.drew ?_ | refine Blk.alloc ?_ _))
      · (repeat' (first | (refine Blk.moved (Blk.new _ _ _) ?_; (first | rfl | (simp only [World.size_alloc]; done))) | refine Blk.drew ?_ | refine Blk.alloc ?_ _))
      · (repeat' (first | (refine Blk.moved (Blk.new _ _ _) ?_; (first | rfl | (simp only [World.size_alloc]; done))) | refine Blk.drew ?_ | refine Blk.alloc ?_ _))
      · omega
      · omega
      · omega
  cases e
  case normal =>
    obtain ⟨b5, b6, g5, g6, u, rfl, hTwo⟩ := hq
    have hT0 : Hid (Two w1 W p.vars.length b5 b6 g5 g6 (arr (cntU p []) p.vars.length) (arr (cntW p []) p.vars.length)) := Lib.hid (by
      have e : Z = arr (cntU p []) p.vars.length := by
        rw [HZ.out, Nat.mul_one]
        apply Array.ext'
        rw [show (Value.int IntKind.i64 0).cells = #[Value.int IntKind.i64 0] from rfl, toList_madeCells_one]
        simp only [arr, cntU, List.filter_nil, List.length_nil]
        apply List.ext_getElem?
        intro j
        rw [List.getElem?_replicate, List.getElem?_map]
        rcases Nat.lt_or_ge j p.vars.length with hj | hj
        · rw [if_pos hj, List.getElem?_range hj]; rfl
        · rw [if_neg (by omega), List.getElem?_eq_none (by simpa using hj)]; rfl
      rw [e] at hTwo
      exact hTwo)
    clear hTwo
    rename_i Kx hKx
    refine hKx _ _ ?_
    unfold aloneFr
    have hck : Hid (p.check.e = 0) := Lib.hid (asked_ok HA.out).1
    have HG := Lib.hid (good_of hck.out)
    have HE1 := Lib.hid (HE.out.keep HB.out)
    have HE2 := Lib.hid (HE1.out.keep hT0.out.below)
    have hbw : Hid (Below w.heap.size w W) := Lib.hid (HB.out.trans (hT0.out.below.mono HB.out.size))
    have hbx2 := hbx.out
    have HBXW := Lib.hid (HBX.out.below hT0.out.below HBX.out.lt)
    clear hbx2 d0 hlx hnew
    have d0 : W.cell? ⟨w.heap.size, 0, none⟩ = some (.slice p.Av p.vars.length p.cv) := HBXW.out.cell 0
    have d1 : W.cell? ⟨w.heap.size, 1, none⟩ = some (.slice p.Ao p.vols.length p.co) := HBXW.out.cell 1
    have d2 : W.cell? ⟨w.heap.size, 2, none⟩ = some (.slice p.Al p.locks.length p.cl) := HBXW.out.cell 2
    have d3 : W.cell? ⟨w.heap.size, 3, none⟩ = some (.slice p.Ab p.bars.length p.cb) := HBXW.out.cell 3
    have d4 : W.cell? ⟨w.heap.size, 4, none⟩ = some (.slice p.At p.threads.length p.ct) := HBXW.out.cell 4
    have hlx := HBXW.out.lt
    gi_wp2_with first
      | (refine ⟨trivial, ?_⟩; gi_at_call 13; refine (callsIn_wide.2 (started_set p W HE2.out.in_ HG.out HE2.out.tab HE2.out.pos)).mono ?_; rintro e w3 ⟨b3, A3, c3, ws3, rfl, hs3, hb3⟩; have HS3 := Lib.hid hs3; have HB3 := Lib.hid hb3; clear hs3 hb3)
      | (refine ⟨trivial, ?_⟩; gi_at_call 14; refine (callsIn_wide.2 (all_set w3 HS3.out)).mono ?_; rintro e w4 ⟨bx, A4, c4, rfl, hi4, hb4⟩; have HI4 := Lib.hid hi4; have HB4 := Lib.hid hb4; clear hi4 hb4)
      | fail
    have hT4 := Lib.hid ((hT0.out.lower HB3.out).lower HB4.out)
    have hb34 := Lib.hid (HB3.out.trans (HB4.out.mono HB3.out.size))
    have hTab4 := Lib.hid ((HE2.out.tab.keep HB3.out HE2.out.pos).keep HB4.out (Nat.lt_of_lt_of_le HE2.out.pos HB3.out.size))
    have hitn : Hid (∀ i, IterB bx A4 i → ¬ GG g5 g6 i) := Lib.hid (by
      have h5 := hT0.out.y5.lt
      have h6 := hT0.out.y6.lt
      have hs := HB3.out.size
      have hge := hT0.out.ge
      have hp1 : 0 < w1.heap.size := HE1.out.pos
      have hi1 := HI4.out.1
      intro i hi hg
      have hlo : i < W.heap.size ∧ w1.heap.size ≤ i := by
        rcases hg with rfl | rfl
        · exact ⟨h5, hge.2.2.1⟩
        · exact ⟨h6, hge.2.2.2⟩
      rcases hi with rfl | hi | hi
      · omega
      · have := (HI4.out.2.2.lt i (by rw [ownBlock_sl]; exact hi)).1
        omega
      · have h0 : (0 : Nat) < w1.heap.size := hp1
        omega)
    have hitl : Hid (∀ i, IterB bx A4 i → i < w4.heap.size) := Lib.hid (by
      intro i hi
      rcases hi with rfl | hi | hi
      · exact HI4.out.2.1.lt
      · exact (HI4.out.2.2.lt i (by rw [ownBlock_sl]; exact hi)).2
      · have h0 : (0 : Nat) < w4.heap.size := Nat.lt_of_lt_of_le HE2.out.pos hb34.out.size
        omega)
    have hSt : Hid (∀ k, p.startM.testBit k = true → k < p.threads.length) := Lib.hid (fun k hk => nxtT_clo HG.out ((startM_bit HG.out k).1 hk))
    have hLl : Hid ((listM p.startM).length ≤ 65535) := Lib.hid (by
      rw [listM_bound p.startM p.threads.length hSt.out]
      exact Nat.le_trans (List.length_filter_le _ _) (by simp; exact HG.out.thr2))
    have hbw4 : Hid (Below w.heap.size w w4) := Lib.hid (hbw.out.trans (hb34.out.mono hbw.out.size))
    have HBX4 := Lib.hid ((HBXW.out.below HB3.out HBXW.out.lt).below HB4.out (HBXW.out.below HB3.out HBXW.out.lt).lt)
    clear d0 d1 d2 d3 d4 hlx
    refine wpIn_frame (aloneFr2 p w.heap.size b5 b6 bx) (by kernel_rfl) (fun u2 => ?_)
    refine wpIn_rangeFunc_ownG (α := {x : Nat // p.startM.testBit x = true}) rfl (by omega) (gf := 32) (lb := #[.pointer (some ⟨bx, 0, none⟩)]) rfl trivial (enters_of Tryz.func32 (by kernel_rfl) rfl)
      (encs := fun x => #[Value.int .i64 (x.1 : Int)]) (Kp := KeepB (IterB bx A4)) (S := fun ys => vals ys = listM p.startM) (Sp := fun pre => vals pre <+: listM p.startM) (N := (listM p.startM).length) (w0 := w4)
      (fun l J Jx W5 hW5 _ _ hY h0 => ?contract) (fun h k => h.trans k) (fun W5 l o o' hl hW5 ho _ => ⟨?ksize, fun i hi hl2 => ?ksame⟩) (Below.refl _ _) (fun _ => rfl)
      (fun pre W5 => Two w1 W5 p.vars.length b5 b6 g5 g6 (arr (cntU p (vals pre)) p.vars.length) (arr (cntW p (vals pre)) p.vars.length))
      (fun _ _ _ => False)
      (fun pre X Y row h hg hr => h.grown hg (fun r e => ⟨Nat.le_trans (Nat.le_trans hT0.out.below.size hb34.out.size) (hr r e).1, (hr r e).2⟩))
      (fun _ _ _ _ _ hs _ _ => hs)
      hT4.out
      (fun x => aloneFr3 p w.heap.size b5 b6 bx x.1 u2) ?assign ?body ?done ?stop
    case ksize => simp [World.putObj]
    case ksame =>
      have h1 := hitl.out i hi
      have h2 : i ≠ l := by omega
      exact (grownBy_putObj' W5 l o').block i hl2 (fun e => h2 (Option.some.inj e))
    case contract =>
      refine (all1_at (4) (by omega) (KeepB (IterB bx A4)) (fun pre W6 => ∃ ys : List {x : Nat // p.startM.testBit x = true}, vals ys = pre ∧ J ys W6) (fun pre W6 => ∃ ys : List {x : Nat // p.startM.testBit x = true}, vals ys = pre ∧ Jx ys W6) HS3.out.rep (fun W6 W7 hk => IterAt.keepB hk) (fun W6 W7 hk => Tab.keepB hk (.inr (.inr rfl))) ?_ W5 (HI4.out.below hW5) (hTab4.out.keep hW5 (Nat.lt_of_lt_of_le HE2.out.pos hb34.out.size)) ⟨[], rfl, h0⟩).mono ?_
      · rintro pre x W6 ⟨ys, rfl, hJ⟩ hlt hx
        refine (hY ys ⟨x, hx⟩ W6 hJ (by simpa [vals] using hlt)).mono ?_
        rintro e W7 (⟨rfl, h1, h2⟩ | ⟨rfl, h1⟩)
        · exact .inl ⟨rfl, ⟨ys ++ [⟨x, hx⟩], by simp [vals], h1⟩, h2⟩
        · exact .inr ⟨rfl, ⟨ys ++ [⟨x, hx⟩], by simp [vals], h1⟩⟩
      · rintro e W7 ⟨hv, h | h⟩
        · obtain ⟨_, rfl, ys, hys, hJ⟩ := h
          exact ⟨hv, .inl ⟨ys, hys, hJ⟩⟩
        · obtain ⟨pre, hpre, ys, rfl, hJ⟩ := h
          exact ⟨hv, .inr ⟨ys, hpre, hJ⟩⟩
    case assign =>
      intro l x W5 K hK
      unfold aloneFr2
      gi_wp2
      exact hK
    case stop =>
      rintro D c pre W5 _ _ h _
      exact h.elim
    case body =>
      rintro l pre ⟨xv, hxs⟩ W5 hTw hlt
      unfold aloneFr3
      dsimp only
      have HTW := Lib.hid hTw
      have HE5 := Lib.hid (HE1.out.keep hTw.below)
      have HBX5 := Lib.hid (HBX.out.below hTw.below HBX.out.lt)
      have hpl : pre.length ≤ 65535 := by have := hLl.out; omega
      obtain ⟨t, ht⟩ := get_some (hSt.out xv hxs)
      have HT := Lib.hid ht
      have HSM := Lib.hid (good_small hck.out (get_mem ht))
      have HCA := Lib.hid (codeAt_get ht)
      obtain ⟨g, off, hAg, hgl, _, t1, _⟩ := (HE5.out.in_.threads).thr ht
      have d4 : W5.cell? ⟨w.heap.size, 4, none⟩ = some (.slice p.At p.threads.length p.ct) := HBX5.out.cell 4
      have d0 : W5.cell? ⟨w.heap.size, 0, none⟩ = some (.slice p.Av p.vars.length p.cv) := HBX5.out.cell 0
      have HAG := Lib.hid hAg
      rw [hAg] at d4
      have hlx := HBX5.out.lt
      have hxl : (xv : Int) < (p.threads.length : Int) := by have := hSt.out xv hxs; omega
      have HCL := Lib.hid (fun k (hk : k < 9) => touchL_len t.code (HG.out.code t (get_mem HT.out)) HSM.out k hk)
      clear hAg ht hTw
      gi_wp2_with (refine ⟨trivial, ?_⟩; gi_at_call 15; refine (CallsIn.inRound l (callsIn_wide.2 (touches_any W5 ((HE5.out.in_.thr t (get_mem HT.out)).code) (Nat.le_refl _) (HG.out.code t (get_mem HT.out)) HSM.out HE5.out.tab HE5.out.pos))).mono ?_; rintro e w6 ⟨A3, c3, rfl, ⟨ht6, hn6⟩, hb6⟩; have HT6 := Lib.hid ht6; have HN6 := Lib.hid hn6; have HB6 := Lib.hid hb6; have d0' : w6.cell? ⟨w.heap.size, 0, none⟩ = some (.slice p.Av p.vars.length p.cv) := (HBX5.out.below hb6 HBX5.out.lt).cell 0; have hlx' := (HBX5.out.below hb6 HBX5.out.lt).lt; unfold touchV; clear ht6 hn6 hb6)
      have hb67 : Hid (Below w6.heap.size w6 (w6.alloc (.cells #[.slice (A3 0) (touchL t.code 0).length (c3 0), .slice (A3 1) (touchL t.code 1).length (c3 1), .slice (A3 2) (touchL t.code 2).length (c3 2), .slice (A3 3) (touchL t.code 3).length (c3 3), .slice (A3 4) (touchL t.code 4).length (c3 4), .slice (A3 5) (touchL t.code 5).length (c3 5), .slice (A3 6) (touchL t.code 6).length (c3 6), .slice (A3 7) (touchL t.code 7).length (c3 7), .slice (A3 8) (touchL t.code 8).length (c3 8)] 34))) := Lib.hid (Below.alloc (Below.refl _ _) (Nat.le_refl _) _)
      have hx7 : Hid (Blk (w6.alloc (.cells #[.slice (A3 0) (touchL t.code 0).length (c3 0), .slice (A3 1) (touchL t.code 1).length (c3 1), .slice (A3 2) (touchL t.code 2).length (c3 2), .slice (A3 3) (touchL t.code 3).length (c3 3), .slice (A3 4) (touchL t.code 4).length (c3 4), .slice (A3 5) (touchL t.code 5).length (c3 5), .slice (A3 6) (touchL t.code 6).length (c3 6), .slice (A3 7) (touchL t.code 7).length (c3 7), .slice (A3 8) (touchL t.code 8).length (c3 8)] 34)) w6.heap.size 34 #[.slice (A3 0) (touchL t.code 0).length (c3 0), .slice (A3 1) (touchL t.code 1).length (c3 1), .slice (A3 2) (touchL t.code 2).length (c3 2), .slice (A3 3) (touchL t.code 3).length (c3 3), .slice (A3 4) (touchL t.code 4).length (c3 4), .slice (A3 5) (touchL t.code 5).length (c3 5), .slice (A3 6) (touchL t.code 6).length (c3 6), .slice (A3 7) (touchL t.code 7).length (c3 7), .slice (A3 8) (touchL t.code 8).length (c3 8)]) := Lib.hid (Blk.new _ _ _)
      have hT7 : Hid (Two w1 (w6.alloc (.cells #[.slice (A3 0) (touchL t.code 0).length (c3 0), .slice (A3 1) (touchL t.code 1).length (c3 1), .slice (A3 2) (touchL t.code 2).length (c3 2), .slice (A3 3) (touchL t.code 3).length (c3 3), .slice (A3 4) (touchL t.code 4).length (c3 4), .slice (A3 5) (touchL t.code 5).length (c3 5), .slice (A3 6) (touchL t.code 6).length (c3 6), .slice (A3 7) (touchL t.code 7).length (c3 7), .slice (A3 8) (touchL t.code 8).length (c3 8)] 34)) p.vars.length b5 b6 g5 g6 (arr (cntU p (vals pre)) p.vars.length) (arr (cntW p (vals pre)) p.vars.length)) := Lib.hid ((HTW.out.lower HB6.out).lower hb67.out)
      generalize w6.alloc (.cells #[.slice (A3 0) (touchL t.code 0).length (c3 0), .slice (A3 1) (touchL t.code 1).length (c3 1), .slice (A3 2) (touchL t.code 2).length (c3 2), .slice (A3 3) (touchL t.code 3).length (c3 3), .slice (A3 4) (touchL t.code 4).length (c3 4), .slice (A3 5) (touchL t.code 5).length (c3 5), .slice (A3 6) (touchL t.code 6).length (c3 6), .slice (A3 7) (touchL t.code 7).length (c3 7), .slice (A3 8) (touchL t.code 8).length (c3 8)] 34) = w7 at *
      have hf7 : Hid (Foot (GG g5 g6) W5 w7) := Lib.hid ((Foot.of_below (HB6.out.trans (hb67.out.mono HB6.out.size))).mono (fun i hi hle => absurd hle (by omega)))
      gi_loopw [40] (fun iv wr => ∃ v : Nat, iv = .int .i64 v ∧ v ≤ p.vars.length ∧ Two w1 wr p.vars.length b5 b6 g5 g6 (arr (mid (cntU p (vals pre)) (cntU p (vals pre ++ [xv])) v) p.vars.length) (arr (mid (cntW p (vals pre)) (cntW p (vals pre ++ [xv])) v) p.vars.length) ∧ Foot (GG g5 g6) w7 wr) (fun iv _ => p.vars.length - (intOf iv).toNat)
      case atStart => exact ⟨0, rfl, by omega, by rw [mid_zero, mid_zero]; exact hT7.out, Foot.refl _ _⟩
      case round =>
        obtain ⟨v, rfl, hv, hTv, hff⟩ := hrel
        have HTV := Lib.hid hTv
        have hff := Lib.hid hff
        clear hTv
        by_cases hvl : v < p.vars.length
        · have hv2 : (v : Int) < (p.vars.length : Int) := by omega
          have hxr := hx7.out.foot hff.out (fun e => by have h1 := HTW.out.y5.lt; have h2 := HTW.out.y6.lt; have h3 := HB6.out.size; rcases e with e | e <;> omega)
          have r0 : wr.cell? ⟨w6.heap.size, 0, none⟩ = some (.slice (A3 0) (touchL t.code 0).length (c3 0)) := hxr.cell 0
          have r1 : wr.cell? ⟨w6.heap.size, 1, none⟩ = some (.slice (A3 1) (touchL t.code 1).length (c3 1)) := hxr.cell 1
          have hlr := hxr.lt
          have R0 : Hid (RdL encM 1 wr wr.heap.size (A3 0) (touchL t.code 0)) := Lib.hid (((HT6.out 0 (by omega)).below hb67.out).side hff.out (fun g hg e => by have h1 := HN6.out 0 (by omega) g hg; have h2 := HTW.out.y5.lt; have h3 := HTW.out.y6.lt; rcases e with e | e <;> omega) hb67.out.size)
          have R1 : Hid (RdL encM 1 wr wr.heap.size (A3 1) (touchL t.code 1)) := Lib.hid (((HT6.out 1 (by omega)).below hb67.out).side hff.out (fun g hg e => by have h1 := HN6.out 1 (by omega) g hg; have h2 := HTW.out.y5.lt; have h3 := HTW.out.y6.lt; rcases e with e | e <;> omega) hb67.out.size)
          have q5 : wr.cell? ⟨b5, 0, none⟩ = some (.slice (some ⟨g5, 0, none⟩) p.vars.length p.vars.length) := HTV.out.x5.cell 0
          have q6 : wr.cell? ⟨b6, 0, none⟩ = some (.slice (some ⟨g6, 0, none⟩) p.vars.length p.vars.length) := HTV.out.x6.cell 0
          have l5 := HTV.out.x5.lt
          have l6 := HTV.out.x6.lt
          have e5 : wr.cell? ⟨g5, v, none⟩ = some (.int .i64 (cntU p (vals pre) v : Int)) := by rw [HTV.out.y5.cell, arr_get _ hvl, mid_at]
          have e6 : wr.cell? ⟨g6, v, none⟩ = some (.int .i64 (cntW p (vals pre) v : Int)) := by rw [HTV.out.y6.cell, arr_get _ hvl, mid_at]
          have z5 := HTV.out.y5.frozen v
          have z6 := HTV.out.y6.frozen v
          have l7 := HTV.out.y5.lt
          have l8 := HTV.out.y6.lt
          have n5 := cntU_le p (vals pre) v
          have n6 := cntW_le p (vals pre) v
          rw [vals_len] at n5 n6
          have hsU := cntU_snoc p (vals pre) xv v
          have hsW := cntW_snoc p (vals pre) xv v
          rw [HCA.out] at hsU hsW
          have HSU := Lib.hid hsU
          have HSW := Lib.hid hsW
          have hnb := HTV.out.b6g5
          have hng := HTV.out.ng
          clear hsU hsW
          rcases hbw : hasB (touchL t.code 1) v with _ | _
          · have HBW := Lib.hid hbw
            clear hbw
            rcases hbr : hasB (touchL t.code 0) v with _ | _
            · have HBR := Lib.hid hbr
              clear hbr
              have u1 := Lib.hid (show cntU p (vals pre ++ [xv]) v = cntU p (vals pre) v by rw [HSU.out]; unfold useB; rw [HBW.out, HBR.out]; rfl)
              have u2 := Lib.hid (show cntW p (vals pre ++ [xv]) v = cntW p (vals pre) v by rw [HSW.out]; unfold wrB; rw [HBW.out]; rfl)
              gi_wp2_with first
                | (refine ⟨trivial, ?_⟩; gi_at_call 16; refine (CallsIn.inRound l (callsIn_wide.2 (contains_any (touchL t.code 1) v (A3 1) (c3 1) wr R1.out (HCL.out 1 (by omega))))).mono ?_; clear R1; rintro e w' ⟨rfl, rfl⟩; rw [HBW.out])
                | (refine ⟨trivial, ?_⟩; gi_at_call 16; refine (CallsIn.inRound l (callsIn_wide.2 (contains_any (touchL t.code 0) v (A3 0) (c3 0) wr R0.out (HCL.out 0 (by omega))))).mono ?_; clear R0; rintro e w' ⟨rfl, rfl⟩; rw [HBR.out])
                | fail
              go_roundw
              case rel => exact ⟨v + 1, by go_num, by omega, by rw [← arr_same _ _ u1.out, ← arr_same _ _ u2.out]; exact HTV.out, hff.out⟩
              case measure => simp [intOf]; omega
            · have HBR := Lib.hid hbr
              clear hbr
              have u1 := Lib.hid (show cntU p (vals pre ++ [xv]) v = cntU p (vals pre) v + 1 by rw [HSU.out]; unfold useB; rw [HBW.out, HBR.out]; rfl)
              have u2' := Lib.hid (show cntW p (vals pre ++ [xv]) v = cntW p (vals pre) v by rw [HSW.out]; unfold wrB; rw [HBW.out]; rfl)
              gi_wp2_with first
                | (refine ⟨trivial, ?_⟩; gi_at_call 16; refine (CallsIn.inRound l (callsIn_wide.2 (contains_any (touchL t.code 1) v (A3 1) (c3 1) wr R1.out (HCL.out 1 (by omega))))).mono ?_; clear R1; rintro e w' ⟨rfl, rfl⟩; rw [HBW.out])
                | (refine ⟨trivial, ?_⟩; gi_at_call 16; refine (CallsIn.inRound l (callsIn_wide.2 (contains_any (touchL t.code 0) v (A3 0) (c3 0) wr R0.out (HCL.out 0 (by omega))))).mono ?_; clear R0; rintro e w' ⟨rfl, rfl⟩; rw [HBR.out])
                | fail
              go_roundw
              case rel =>
                refine ⟨v + 1, by go_num, by omega, ?_, Foot.setCell (p := ⟨g5, v, none⟩) hff.out (.inl (.inl rfl)) _⟩
                rw [← arr_same _ _ u2'.out, ← arr_set _ _ hvl, u1.out]
                exact HTV.out.set5 v _
              case measure => simp [intOf]; omega
          · have HBW := Lib.hid hbw
            clear hbw
            have u1 := Lib.hid (show cntU p (vals pre ++ [xv]) v = cntU p (vals pre) v + 1 by rw [HSU.out]; unfold useB; rw [HBW.out, Bool.or_true]; rfl)
            have u2' := Lib.hid (show cntW p (vals pre ++ [xv]) v = cntW p (vals pre) v + 1 by rw [HSW.out]; unfold wrB; rw [HBW.out]; rfl)
            gi_wp2_with first
              | (refine ⟨trivial, ?_⟩; gi_at_call 16; refine (CallsIn.inRound l (callsIn_wide.2 (contains_any (touchL t.code 1) v (A3 1) (c3 1) wr R1.out (HCL.out 1 (by omega))))).mono ?_; clear R1; rintro e w' ⟨rfl, rfl⟩; rw [HBW.out])
              | fail
            refine ⟨trivial, ?_⟩
            gi_wp2
            go_roundw
            case rel =>
              refine ⟨v + 1, by go_num, by omega, ?_, Foot.setCell (p := ⟨g6, v, none⟩) (Foot.setCell (p := ⟨g5, v, none⟩) hff.out (.inl (.inl rfl)) _) (.inl (.inr rfl)) _⟩
              rw [← arr_set (cntW p (vals pre)) _ hvl, ← arr_set (cntU p (vals pre)) _ hvl, u1.out, u2'.out]
              exact (HTV.out.set5 v _).set6 v _
            case measure => simp [intOf]; omega
        · obtain rfl : v = p.vars.length := by omega
          have hd : decide ((p.vars.length : Int) < (p.vars.length : Int)) = false := by simp
          gi_wp2
          have hTe := HTV.out
          rw [mid_end, mid_end] at hTe
          have hft := hf7.out.trans hff.out (fun i _ h => h)
          exact ⟨keepsFrom_of HTW.out hft, KeepB.of_foot hft hitn.out, by have e := vals_snoc pre ⟨xv, hxs⟩; dsimp only at e ⊢; rw [e]; exact hTe⟩
    case done =>
      rintro D ys W5 hD hys hTw hK
      unfold aloneFr2
      rw [hys] at hTw
      have HTW := Lib.hid hTw
      have HK := Lib.hid hK
      have HBX5 := Lib.hid (HBX.out.below hTw.below HBX.out.lt)
      have d0 : W5.cell? ⟨w.heap.size, 0, none⟩ = some (.slice p.Av p.vars.length p.cv) := HBX5.out.cell 0
      have hlx := HBX5.out.lt
      clear hTw hK hys
      gi_wp2
      gi_loopw [71, 11] (fun iv lv wr => ∃ (v : Nat) (A : Option Addr) (c : Nat), iv = .int .i64 v ∧ v ≤ p.vars.length ∧ lv = .slice A ((List.range v).filter (aloneB p)).length c ∧ wr.ownsRow W5.heap.size 3 1 (.slice A ((List.range v).filter (aloneB p)).length c) ((List.range v).filter (aloneB p)).length (((List.range v).filter (aloneB p)).map encN1) ∧ Below W5.heap.size W5 wr) (fun iv _ _ => p.vars.length - (intOf iv).toNat)
      case atStart => exact ⟨0, none, 0, rfl, by omega, rfl, World.ownsRow_nil _ _ _ _, Below.refl _ _⟩
      case round =>
        obtain ⟨v, A, c, rfl, hv, rfl, hrow, hbl⟩ := hrel
        have HR := Lib.hid hrow
        have HBL := Lib.hid hbl
        clear hrow hbl
        by_cases hvl : v < p.vars.length
        · have hv2 : (v : Int) < (p.vars.length : Int) := by omega
          have HTr := Lib.hid (HTW.out.lower HBL.out)
          have q5 : wr.cell? ⟨b5, 0, none⟩ = some (.slice (some ⟨g5, 0, none⟩) p.vars.length p.vars.length) := HTr.out.x5.cell 0
          have q6 : wr.cell? ⟨b6, 0, none⟩ = some (.slice (some ⟨g6, 0, none⟩) p.vars.length p.vars.length) := HTr.out.x6.cell 0
          have l5 := HTr.out.x5.lt
          have l6 := HTr.out.x6.lt
          have e5 : wr.cell? ⟨g5, v, none⟩ = some (.int .i64 (cntU p (listM p.startM) v : Int)) := by rw [HTr.out.y5.cell, arr_get _ hvl]
          have e6 : wr.cell? ⟨g6, v, none⟩ = some (.int .i64 (cntW p (listM p.startM) v : Int)) := by rw [HTr.out.y6.cell, arr_get _ hvl]
          have l7 := HTr.out.y5.lt
          have l8 := HTr.out.y6.lt
          have hal : aloneB p v = (decide (cntU p (listM p.startM) v ≤ 1) || decide (cntW p (listM p.startM) v = 0)) := rfl
          have hfl0 : ((List.range v).filter (aloneB p)).length ≤ v := Nat.le_trans (List.length_filter_le _ _) (by simp)
          have HAL := Lib.hid hal
          clear hal
          generalize cntU p (listM p.startM) v = cu at *
          generalize cntW p (listM p.startM) v = cw at *
          by_cases hcu : cu ≤ 1
          · have HAB := Lib.hid (show aloneB p v = true by rw [HAL.out]; simp [hcu])
            have dcu : decide ((cu : Int) ≤ 1) = true := by simp; omega
            clear hcu
            gi_wp2_with (gi_at_builtin; refine wpListIn_append_own _ rfl _ _ 28 rfl W5.heap.size 3 i0 (.int .i64 0) 1 8 Tryz.underlying28 hi0 iz0 iz1 iz2 rfl (by decide) _ _ _ rfl (HR.out.alloc _) ⟨wr.heap.size, 0, none⟩ 1 1 [encN1 v] rfl rfl (cell_one_new _ _ _) (by simp [Value.oneCell', encN1]) (by simp only [maxLen]; omega) (by omega) (by have := HBL.out.size; simp; omega) ?_; intro v' w9 hown' hgrow _; obtain ⟨g', cap', rfl⟩ := ownsRow_succ hown'; have HO9 := Lib.hid hown'; have HG9 := Lib.hid hgrow; clear hown' hgrow)
            try (refine ⟨trivial, ?_⟩)
            have hfl := Lib.hid (show (List.range (v + 1)).filter (aloneB p) = (List.range v).filter (aloneB p) ++ [v] by rw [List.range_succ, List.filter_append]; simp [HAB.out])
            have hfn := Lib.hid (show ((List.range (v + 1)).filter (aloneB p)).length = ((List.range v).filter (aloneB p)).length + 1 by rw [hfl.out]; simp)
            go_roundw
            case rel => exact ⟨v + 1, _, _, by go_num, by omega, by rw [hfn.out], by rw [hfn.out, hfl.out, List.map_append]; exact HO9.out, (HBL.out.alloc HBL.out.size _).grown HG9.out (by have := HBL.out.size; simp; omega) (fun k hk => (HR.out.lt k hk).1)⟩
            case measure => simp [intOf]; omega
          · by_cases hcw : cw = 0
            · have HAB := Lib.hid (show aloneB p v = true by rw [HAL.out]; simp [hcw])
              have dcu : decide ((cu : Int) ≤ 1) = false := by simp; omega
              have dcw : ((cw : Int) == 0) = true := by simp [hcw]
              clear hcu hcw
              gi_wp2_with (gi_at_builtin; refine wpListIn_append_own _ rfl _ _ 28 rfl W5.heap.size 3 i0 (.int .i64 0) 1 8 Tryz.underlying28 hi0 iz0 iz1 iz2 rfl (by decide) _ _ _ rfl (HR.out.alloc _) ⟨wr.heap.size, 0, none⟩ 1 1 [encN1 v] rfl rfl (cell_one_new _ _ _) (by simp [Value.oneCell', encN1]) (by simp only [maxLen]; omega) (by omega) (by have := HBL.out.size; simp; omega) ?_; intro v' w9 hown' hgrow _; obtain ⟨g', cap', rfl⟩ := ownsRow_succ hown'; have HO9 := Lib.hid hown'; have HG9 := Lib.hid hgrow; clear hown' hgrow)
              have hfl := Lib.hid (show (List.range (v + 1)).filter (aloneB p) = (List.range v).filter (aloneB p) ++ [v] by rw [List.range_succ, List.filter_append]; simp [HAB.out])
              have hfn := Lib.hid (show ((List.range (v + 1)).filter (aloneB p)).length = ((List.range v).filter (aloneB p)).length + 1 by rw [hfl.out]; simp)
              go_roundw
              case rel => exact ⟨v + 1, _, _, by go_num, by omega, by rw [hfn.out], by rw [hfn.out, hfl.out, List.map_append]; exact HO9.out, (HBL.out.alloc HBL.out.size _).grown HG9.out (by have := HBL.out.size; simp; omega) (fun k hk => (HR.out.lt k hk).1)⟩
              case measure => simp [intOf]; omega
            · have HAB := Lib.hid (show aloneB p v = false by rw [HAL.out]; simp [hcw, hcu])
              have dcu : decide ((cu : Int) ≤ 1) = false := by simp; omega
              have dcw : ((cw : Int) == 0) = false := by simp; omega
              clear hcu hcw
              have hfl := Lib.hid (show (List.range (v + 1)).filter (aloneB p) = (List.range v).filter (aloneB p) by rw [List.range_succ, List.filter_append]; simp [HAB.out])
              gi_wp2
              go_roundw
              case rel => exact ⟨v + 1, A, c, by go_num, by omega, by rw [hfl.out], by rw [hfl.out]; exact HR.out, HBL.out⟩
              case measure => simp [intOf]; omega
        · obtain rfl : v = p.vars.length := by omega
          have hd : decide ((p.vars.length : Int) < (p.vars.length : Int)) = false := by simp
          gi_wp2
          have hKr : wr.heap[D]? = some (.deferred (some [])) := (HBL.out.block D (Array.getElem?_eq_some_iff.1 HK.out).1).trans HK.out
          refine ⟨by simp, .inl ⟨_, _, rfl, run_takeDeferred hKr, ?_⟩⟩
          have hal : Hid (aloneL p = (List.range p.vars.length).filter (aloneB p)) := Lib.hid (by unfold aloneL; rw [if_pos HA.out])
          have hb5 : Below w.heap.size w wr := HB.out.trans ((HTW.out.below.trans (HBL.out.mono HTW.out.below.size)).mono HB.out.size)
          refine ⟨_, results_tmp2 rfl _ _ _, A, c, ?_, ?_, ?_⟩
          · rw [hal.out, HA.out]; rfl
          · rw [hal.out]; exact ⟨own_read (ownsRow_putObj HR.out _ hKr rfl) rfl, own_new HR.out (Nat.le_trans HB.out.size HTW.out.below.size)⟩
          · exact hb5.trans (belowK_b (w := w) (Nat.le_refl _) wr D _ _ (by have := hbw4.out.size; omega) hKr rfl rfl)
  all_goals exact hq.elim
set_option maxRecDepth 100000 in
set_option maxHeartbeats 1000000 in
theorem alone_any (p : Prg) (w : World) (hE : Env p w) : Calls Tryz.prog 5 #[p.val] w (AloneR p w) := by
  by_cases ha0 : askedN p 0 = 0
  · exact callsIn_wide.1 (alone_in p w hE ha0)
  have HE := Lib.hid hE; clear hE
  have hb0 : Hid (Below w.heap.size w (w.alloc (.cells p.cells 27))) := Lib.hid (by go_grown)
  have hal : Hid (aloneL p = []) := Lib.hid (by unfold aloneL; rw [if_neg ha0])
  rcases asked_cases p 0 with ha | ha | ha
  · exact absurd ha ha0
  all_goals
    have HA := Lib.hid ha
    clear ha ha0
    unfold Prg.val
    go_enter Tryz.func5, Tryz.ntmps5
    go_wp2_with (go_at_call 12; refine (asked_any p 0 (w.alloc (.cells p.cells 27)) (HE.out.keep hb0.out)).mono ?_; rintro e w1 ⟨rfl, hb⟩; have HB := Lib.hid (hb0.out.trans (hb.mono (by simp))); clear hb; rw [HA.out])
    go_ret2
    exact ⟨none, 0, by rw [hal.out, HA.out]; rfl, by rw [hal.out]; exact ⟨RdL.nil_, NewA.none_ _⟩, HB.out⟩
end Go.Proofs.YtgdnpmpnkbnjaaaGreatDoor
