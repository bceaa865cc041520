/- Contract of abreastlaw11.CheckChecks: true. Conditions: the program's data lies in memory and fits; the package variables that parse's numbers read. -/
import Derived.Test.YtknnbckmdfnmaaaDoorLent
import Derived.Test.YtknnbckmdfnmaaaDoorRefCheck
import Derived.Test.YtknnbckmdfnmaaaDoorLeft
import Derived.Test.YtknnbckmdfnmaaaDoorLives
import Derived.Test.YtknnbckmdfnmaaaDoorChecksD
import Derived.StillTailTactics
import Derived.Deep.DeepCutAuto
namespace Go.Proofs.YtknnbckmdfnmaaaDoor
open Go.RowKit

theorem bcells {W w1 : World} (hb : Below W.heap.size W w1) : (∀ b o, b < W.heap.size → w1.cell? ⟨b, o, none⟩ = W.cell? ⟨b, o, none⟩) ∧ (∀ b o, b < W.heap.size → w1.frozen? ⟨b, o, none⟩ = W.frozen? ⟨b, o, none⟩) :=
  ⟨fun b o h => hb.cell (p := ⟨b, o, none⟩) h, fun b o h => hb.frozen (p := ⟨b, o, none⟩) h⟩
set_option maxHeartbeats 4000000 in
set_option maxRecDepth 100000 in
theorem checkChecks_any (p : Prg) (w : World) (hf : p.Fits) (hr : p.Room ∧ ∀ x ∈ p.vars, x.name.size ≤ 140737488351232) (hin : p.In w w.heap.size) (hop : p.Ops) (gv : GV w.heap.size w) :
    Calls Tryd.prog 3 #[p.val] w fun e w' => e = .returned (.bool true) ∧ Below w.heap.size w w' := by
  have HF := Lib.hid hf; clear hf
  have HR := Lib.hid hr; clear hr
  have HI := Lib.hid hin; clear hin
  have HO := Lib.hid hop; clear hop
  have HG := Lib.hid gv; clear gv
  have l5 : p.threads.length * 64 ≤ 140737488351232 := HF.out.threads
  have l1 : p.vars.length * 24 ≤ 140737488351232 := HF.out.vars
  obtain ⟨⟨er, pa, nu, at_⟩, hck⟩ : ∃ s, p.check = s := ⟨_, rfl⟩
  have HCK := Lib.hid hck; clear hck
  unfold Prg.val
  go_enter Tryd.func3, Tryd.ntmps3
  go_wp2_with fail
  generalize hW : World.alloc _ _ = W0
  have hb0 : Below w.heap.size w W0 := by subst hW; go_grown
  have hp0 : Blk W0 w.heap.size 27 p.arr := by
    subst hW
    exact Blk.new w _ _
  have hs0 : W0.heap.size = w.heap.size + 1 := by subst hW; simp
  clear hW
  refine (lent_any p W0 HF.out HR.out.1 ((HI.out.below hb0).more (by omega))).mono ?_
  rintro e w1 ⟨q, rfl, hb1, hsame, hrows⟩
  have HSAME := Lib.hid hsame; clear hsame
  have hw1 := hb1.size
  have hbw1 : Below w.heap.size w w1 := hb0.trans (hb1.mono (by omega))
  have hp1 := hp0.below hb1 hp0.lt
  rw [hs0] at hrows
  have HROWS := Lib.hid hrows; clear hrows hp0 hb0 hb1
  unfold Prg.val
  go_upto_region 2 with (fail)
  generalize hW : World.alloc _ _ = W1
  have hb2 : Below w1.heap.size w1 W1 := by subst hW; go_grown
  have hq1 : Blk W1 w1.heap.size 27 q.arr := by
    subst hW
    exact Blk.new w1 _ _
  have hs1 : W1.heap.size = w1.heap.size + 1 := by subst hW; simp
  have hbw2 : Below w.heap.size w W1 := hbw1.trans (hb2.mono (by omega))
  have hp2 := hp1.below hb2 hp1.lt
  have HOUT : Hid (∀ x a, (q.rows allE x).A = some a → a.block < w1.heap.size) := Lib.hid fun x a ha => ((HROWS.out.own x).lt ha).2
  have HROWS1 := Lib.hid (HROWS.out.below hb2); clear HROWS hp1 hb2 hbw1 hW
  obtain ⟨bq, hbq⟩ : ∃ b, b = w1.heap.size := ⟨_, rfl⟩
  rw [← hbq] at hq1 hs1 hw1 HOUT ⊢
  clear hbq
  have HFQ : Hid q.Fits := Lib.hid (HROWS1.out.fits HSAME.out HF.out)
  have HOQ : Hid q.Ops := Lib.hid (HSAME.out.ops HO.out)
  have HCQ : Hid (q.check = ⟨er, pa, nu, at_⟩) := Lib.hid (HSAME.out.check.trans HCK.out)
  have q0 : W1.cell? ⟨bq, 0, none⟩ = some (.slice q.Av q.vars.length q.cv) := hq1.cell 0
  have q1 : W1.cell? ⟨bq, 1, none⟩ = some (.slice q.Ao q.vols.length q.co) := hq1.cell 1
  have q2 : W1.cell? ⟨bq, 2, none⟩ = some (.slice q.Al q.locks.length q.cl) := hq1.cell 2
  have q3 : W1.cell? ⟨bq, 3, none⟩ = some (.slice q.Ab q.bars.length q.cb) := hq1.cell 3
  have q4 : W1.cell? ⟨bq, 4, none⟩ = some (.slice q.At q.threads.length q.ct) := hq1.cell 4
  have lq : bq < W1.heap.size := hq1.lt
  go_wp2_with fail
  refine (check_any q W1 HFQ.out HROWS1.out.in_ HOQ.out ((HG.out.below hbw2).more hbw2.size)).mono ?_
  rintro e w3 ⟨rfl, hb3⟩
  rw [HCQ.out]
  unfold Spot.val spotV
  have hw3 := hb3.size
  have hbw3 : Below w.heap.size w w3 := hbw2.trans (hb3.mono hbw2.size)
  have hq3 := hq1.below hb3 hq1.lt
  have hp3 := hp2.below hb3 hp2.lt
  have HROWS3 := Lib.hid (HROWS1.out.below hb3)
  clear q0 q1 q2 q3 q4 lq hb3 hq1 hp2 HROWS1 hbw2
  go_upto_region 3 with (fail)
  generalize hW : World.alloc _ _ = W3
  have hal : Below w3.heap.size w3 W3 := by subst hW; go_grown
  have h53 : Blk W3 w3.heap.size 32 #[.int .i64 pa, .int .i64 nu, .int .i64 at_] := by
    subst hW
    exact Blk.new _ _ _
  have hs3 : W3.heap.size = w3.heap.size + 1 := by subst hW; simp
  have hbw4 : Below w.heap.size w W3 := hbw3.trans (hal.mono hbw3.size)
  have hq4 := hq3.below hal hq3.lt
  have hp4 := hp3.below hal hp3.lt
  have HROWS4 := Lib.hid (HROWS3.out.below hal)
  clear hW hal hq3 hp3 HROWS3 hbw3
  obtain ⟨b5, hb5⟩ : ∃ b, b = w3.heap.size := ⟨_, rfl⟩
  rw [← hb5] at h53 hs3 hw3 ⊢
  clear hb5
  have p0 : W3.cell? ⟨w.heap.size, 0, none⟩ = some (.slice p.Av p.vars.length p.cv) := hp4.cell 0
  have p1 : W3.cell? ⟨w.heap.size, 1, none⟩ = some (.slice p.Ao p.vols.length p.co) := hp4.cell 1
  have p2 : W3.cell? ⟨w.heap.size, 2, none⟩ = some (.slice p.Al p.locks.length p.cl) := hp4.cell 2
  have p3 : W3.cell? ⟨w.heap.size, 3, none⟩ = some (.slice p.Ab p.bars.length p.cb) := hp4.cell 3
  have p4 : W3.cell? ⟨w.heap.size, 4, none⟩ = some (.slice p.At p.threads.length p.ct) := hp4.cell 4
  have lp : w.heap.size < W3.heap.size := hp4.lt
  go_wp2_with fail
  refine (refCheck_any p W3 HF.out ((HI.out.below hbw4).more hbw4.size)).mono ?_
  rintro e w4 ⟨rfl, hb4⟩
  rw [HCK.out]
  unfold Spot.val spotV
  have hw4 := hb4.size
  clear p0 p1 p2 p3 p4 lp
  go_upto_region 4 with (fail)
  generalize hW : World.alloc _ _ = W5
  have hal : Below w4.heap.size w4 W5 := by subst hW; go_grown
  have h75 : Blk W5 w4.heap.size 32 #[.int .i64 pa, .int .i64 nu, .int .i64 at_] := by
    subst hW
    exact Blk.new _ _ _
  have hs5 : W5.heap.size = w4.heap.size + 1 := by subst hW; simp
  have hal2 : Below W3.heap.size W3 W5 := hb4.trans (hal.mono hw4)
  have HST : Hid (ChSt w q bq b5 w4.heap.size #[.int .i64 pa, .int .i64 nu, .int .i64 at_] #[.int .i64 pa, .int .i64 nu, .int .i64 at_] W5) := Lib.hid
    ⟨hbw4.trans (hal2.mono hbw4.size), hq4.below hal2 hq4.lt, h53.below hal2 h53.lt, h75, HROWS4.out.below hal2, HOUT.out, ⟨by omega, by omega⟩, HFQ.out, HOQ.out⟩
  have HP5 := Lib.hid (hp4.below hal2 hp4.lt)
  clear hW hal hal2 hb4 hq4 hp4 h53 h75 HROWS4 hbw4
  obtain ⟨b7, hb7⟩ : ∃ b, b = w4.heap.size := ⟨_, rfl⟩
  rw [← hb7] at HST hs5 hw4 ⊢
  clear hb7
  have z1 : w.heap.size < bq := by omega
  have z2 : bq < b5 := HST.out.ord.1
  have z3 : b5 < b7 := HST.out.ord.2
  have z4 : b7 < W5.heap.size := HST.out.h7.lt
  clear hs0 hs1 hs3 hs5 hw1 hw3 hw4 HOUT
  have q0 : W5.cell? ⟨bq, 0, none⟩ = some (.slice q.Av q.vars.length q.cv) := HST.out.hq.cell 0
  have q1 : W5.cell? ⟨bq, 1, none⟩ = some (.slice q.Ao q.vols.length q.co) := HST.out.hq.cell 1
  have q2 : W5.cell? ⟨bq, 2, none⟩ = some (.slice q.Al q.locks.length q.cl) := HST.out.hq.cell 2
  have q3 : W5.cell? ⟨bq, 3, none⟩ = some (.slice q.Ab q.bars.length q.cb) := HST.out.hq.cell 3
  have q4 : W5.cell? ⟨bq, 4, none⟩ = some (.slice q.At q.threads.length q.ct) := HST.out.hq.cell 4
  have p0 : W5.cell? ⟨w.heap.size, 0, none⟩ = some (.slice p.Av p.vars.length p.cv) := HP5.out.cell 0
  have p1 : W5.cell? ⟨w.heap.size, 1, none⟩ = some (.slice p.Ao p.vols.length p.co) := HP5.out.cell 1
  have p2 : W5.cell? ⟨w.heap.size, 2, none⟩ = some (.slice p.Al p.locks.length p.cl) := HP5.out.cell 2
  have p3 : W5.cell? ⟨w.heap.size, 3, none⟩ = some (.slice p.Ab p.bars.length p.cb) := HP5.out.cell 3
  have p4 : W5.cell? ⟨w.heap.size, 4, none⟩ = some (.slice p.At p.threads.length p.ct) := HP5.out.cell 4
  have s0 : W5.cell? ⟨b5, 0, none⟩ = some (.int .i64 pa) := HST.out.h5.cell 0
  have s1 : W5.cell? ⟨b5, 1, none⟩ = some (.int .i64 nu) := HST.out.h5.cell 1
  have s2 : W5.cell? ⟨b5, 2, none⟩ = some (.int .i64 at_) := HST.out.h5.cell 2
  have t0 : W5.cell? ⟨b7, 0, none⟩ = some (.int .i64 pa) := HST.out.h7.cell 0
  have t1 : W5.cell? ⟨b7, 1, none⟩ = some (.int .i64 nu) := HST.out.h7.cell 1
  have t2 : W5.cell? ⟨b7, 2, none⟩ = some (.int .i64 at_) := HST.out.h7.cell 2
  have lq : bq < W5.heap.size := by omega
  have lp : w.heap.size < W5.heap.size := by omega
  have ls : b5 < W5.heap.size := by omega
  go_wp2_with (go_at_call 10; refine (num_any _ _).mono ?_; rintro e w8 ⟨rfl, rfl⟩)
  refine (left_any q p W5 HSAME.out HST.out.rows HF.out ((HI.out.below HST.out.bel).more HST.out.bel.size)).mono ?_
  rintro e x1 ⟨rfl, hx1⟩
  have HST1 := Lib.hid (HST.out.below hx1)
  have hx1s := hx1.size
  clear q0 q1 q2 q3 q4 p0 p1 p2 p3 p4 s0 s1 s2 t0 t1 t2 lq lp ls hx1 HST HP5
  go_wp2_with fail
  have HLEN : Hid (q.threads.length = p.threads.length) := Lib.hid HSAME.out.len
  have HVARS : Hid (q.vars = p.vars) := Lib.hid HSAME.out.vars
  go_loopw [8] (fun s8 wr => ∃ (i : Nat) (q' : Prg), i ≤ p.threads.length ∧ s8 = .int .i64 i ∧ q'.threads.length = p.threads.length ∧ q'.vars = p.vars ∧ ChSt w q' bq b5 b7 #[.int .i64 pa, .int .i64 nu, .int .i64 at_] #[.int .i64 pa, .int .i64 nu, .int .i64 at_] wr) (fun s8 _ => p.threads.length - (intOf s8).toNat)
  case atStart => exact ⟨0, q, by omega, rfl, HLEN.out, HVARS.out, HST1.out⟩
  case round =>
    clear HST1 HLEN HVARS HFQ HOQ HCQ HSAME
    obtain ⟨i, q1, hi, rfl, hl1, hv1, hst⟩ := hrel
    have HST := Lib.hid hst; clear hst
    have HL1 := Lib.hid hl1; clear hl1
    have HV1 := Lib.hid hv1; clear hv1
    have a4 : wr.cell? ⟨bq, 4, none⟩ = some (.slice q1.At p.threads.length q1.ct) := (HST.out.hq.cell 4).trans (by rw [← HL1.out]; rfl)
    have lq : bq < wr.heap.size := HST.out.hq.lt
    by_cases hlt : i < p.threads.length
    · obtain ⟨t, ht⟩ := get_some (l := q1.threads) (k := i) (by have := HL1.out; omega)
      obtain ⟨gT, hAT, hgT⟩ := mark_thr HST.out
      obtain ⟨L, hL⟩ : ∃ L, L = t.code.length := ⟨_, rfl⟩
      have HT := Lib.hid ht; clear ht
      have HL := Lib.hid hL; clear hL
      have lL : L * 40 ≤ 140737488355328 := by have := (HST.out.fits.fthreads t (get_mem HT.out)).code; rw [← HL.out] at this; exact this
      rw [hAT] at a4
      have t1 : wr.cell? ⟨gT, i * 3 + 1, none⟩ = some (.slice t.Ac L t.cc) := (HST.out.thr_cell hAT HT.out 1 rfl).trans (by rw [HL.out])
      have hi0 : (0 : Int) ≤ (i : Int) := by omega
      have hi1 : (i : Int) < (p.threads.length : Int) := by omega
      clear hAT
      go_wp2_with fail
      go_loopw [9] (fun s9 wx => ∃ (k : Nat) (q' : Prg) (t' : Thr), k ≤ L ∧ s9 = .int .i64 k ∧ q'.threads.length = p.threads.length ∧ q'.vars = p.vars ∧ q'.threads[i]? = some t' ∧ t'.code.length = L ∧ ChSt w q' bq b5 b7 #[.int .i64 pa, .int .i64 nu, .int .i64 at_] #[.int .i64 pa, .int .i64 nu, .int .i64 at_] wx) (fun s9 _ => L - (intOf s9).toNat)
      case atStart => exact ⟨0, q1, t, by omega, rfl, HL1.out, HV1.out, HT.out, HL.out.symm, HST.out⟩
      case round =>
        clear HST HL1 HV1 HT HL a4 lq t1 hgT
        obtain ⟨k, q2, t2, hk, rfl, hl2, hv2, ht2, hL2, hst⟩ := hrel
        have HST := Lib.hid hst; clear hst
        have HL2 := Lib.hid hl2; clear hl2
        have HV2 := Lib.hid hv2; clear hv2
        have HT2 := Lib.hid ht2; clear ht2
        have HLL := Lib.hid hL2; clear hL2
        obtain ⟨gT, hAT, hgT⟩ := mark_thr HST.out
        obtain ⟨gc, hAC, hgc⟩ := mark_code HST.out HT2.out
        have a4 : wr.cell? ⟨bq, 4, none⟩ = some (.slice q2.At p.threads.length q2.ct) := (HST.out.hq.cell 4).trans (by rw [← HL2.out]; rfl)
        have lq : bq < wr.heap.size := HST.out.hq.lt
        have t1 : wr.cell? ⟨gT, i * 3 + 1, none⟩ = some (.slice t2.Ac L t2.cc) := (HST.out.thr_cell hAT HT2.out 1 rfl).trans (by rw [← HLL.out])
        rw [hAT] at a4
        rw [hAC] at t1
        by_cases hlt2 : k < L
        · obtain ⟨x, hx⟩ := get_some (l := t2.code) (k := k) (by have := HLL.out; omega)
          obtain ⟨c4, f4⟩ := HST.out.ins_cell HT2.out hx hAC 4 rfl
          have HX := Lib.hid hx
          have HAC := Lib.hid hAC
          clear hx hAT hAC
          have hk0 : (0 : Int) ≤ (k : Int) := by omega
          have hk1 : (k : Int) < (L : Int) := by omega
          go_wp2_with fail
          go_roundw
          case rel =>
            refine ⟨k + 1, _, t2.setN k x (bits BinOp.xor IntKind.i64 x.n 1), by omega, by go_num, ?_, ?_, ?_, ?_, HST.out.ins HT2.out HX.out HAC.out _⟩
            · exact (List.length_set ..).trans HL2.out
            · exact HV2.out
            · exact List.getElem?_set_self (List.getElem?_eq_some_iff.1 HT2.out).1
            · exact (List.length_set ..).trans HLL.out
          case measure => simp [intOf]; omega
        · obtain rfl : k = L := by omega
          clear hk hlt2 hAT hAC
          go_wp2_with fail
          go_roundw
          case rel => exact ⟨i + 1, q2, by omega, by go_num, HL2.out, HV2.out, HST.out⟩
          case measure => simp [intOf]; omega
    · obtain rfl : i = p.threads.length := by omega
      clear hi hlt
      obtain ⟨X1, rfl⟩ : ∃ x : World, x = wr := ⟨_, rfl⟩
      have b0 : X1.cell? ⟨bq, 0, none⟩ = some (.slice q1.Av p.vars.length q1.cv) := (HST.out.hq.cell 0).trans (by rw [← HV1.out]; rfl)
      go_upto_if 72 with (fail)
      clear a4
      go_cut [] (fun wx => ∃ q', ChSt w q' bq b5 b7 #[.int .i64 pa, .int .i64 nu, .int .i64 at_] #[.int .i64 pa, .int .i64 nu, .int .i64 at_] wx)
      case first =>
        by_cases hz : 0 < p.vars.length
        · obtain ⟨x, hx⟩ := get_some hz
          obtain ⟨gV, hAV, hgV⟩ := mark_vars HST.out
          have hx1 : q1.vars[0]? = some x := by rw [HV1.out]; exact hx
          have hnm := HR.out.2 x (get_mem hx)
          have c0 : X1.cell? ⟨gV, 0, none⟩ = some (.string x.name) := HST.out.rows.cell .vars hAV (i := 0) (flat_get (enc := encN) (size := 2) (fun _ => rfl) (q1.vars ++ [mkN]) 0 0 x _ (by rw [List.getElem?_append_left (List.getElem?_eq_some_iff.1 hx1).1]; exact hx1) rfl)
          have f0 : X1.frozen? ⟨gV, 0, none⟩ = false := HST.out.rows.frozen .vars hAV 0
          rw [hAV] at b0
          have HX1 := Lib.hid hx1
          have HAV := Lib.hid hAV
          clear hx hx1 hAV
          have hz1 : (0 : Int) < (p.vars.length : Int) := by omega
          have hsum : x.name.size + (⟨#[95]⟩ : ByteArray).size ≤ 9223372036854775807 := by show x.name.size + 1 ≤ _; omega
          have hadd : ∀ W : World, (Op.stringOp .add x.name ⟨#[95]⟩).run Tryd.prog W = .ok (.string (x.name ++ ⟨#[95]⟩)) W := fun W => run_string_add_sum W _ _ hsum
          go_upto_region 14 with (fail)
          go_still_tail 10, (by kernel_rfl)
          change wpList _ _ _ _ _ X1.drew
          go_wp2_with fail
          go_meet
          exact ⟨_, (HST.out.nam HX1.out HAV.out _ (by rw [ByteArray.size_append']; show x.name.size + 1 ≤ _; omega)).below (Below.refl _ _).drew⟩
        · have hz1 : decide ((0 : Int) < (p.vars.length : Int)) = false := by rw [decide_eq_false_iff_not]; omega
          have hz2 : p.vars.length = 0 := by omega
          go_wp2_with fail
          go_meet
          exact ⟨q1, HST.out⟩
      case rest =>
      obtain ⟨q3, hst⟩ := hcut
      obtain ⟨X2, rfl⟩ : ∃ x : World, x = wc := ⟨_, rfl⟩
      have HS2 := Lib.hid hst
      clear hst HST b0 lq HL1 HV1
      obtain ⟨⟨e2, a2, n2, d2⟩, hck2⟩ : ∃ s, q3.check = s := ⟨_, rfl⟩
      have HC3 := Lib.hid hck2; clear hck2
      have z5 : b7 < X2.heap.size := HS2.out.h7.lt
      have q0 : X2.cell? ⟨bq, 0, none⟩ = some (.slice q3.Av q3.vars.length q3.cv) := HS2.out.hq.cell 0
      have q1 : X2.cell? ⟨bq, 1, none⟩ = some (.slice q3.Ao q3.vols.length q3.co) := HS2.out.hq.cell 1
      have q2 : X2.cell? ⟨bq, 2, none⟩ = some (.slice q3.Al q3.locks.length q3.cl) := HS2.out.hq.cell 2
      have qq3 : X2.cell? ⟨bq, 3, none⟩ = some (.slice q3.Ab q3.bars.length q3.cb) := HS2.out.hq.cell 3
      have q4 : X2.cell? ⟨bq, 4, none⟩ = some (.slice q3.At q3.threads.length q3.ct) := HS2.out.hq.cell 4
      have lq : bq < X2.heap.size := HS2.out.hq.lt
      go_wp2_with fail
      refine (copied_any q3 X2 HS2.out.fits HS2.out.rows.in_).mono ?_
      rintro e y1 ⟨nq, rfl, hy1, hns, hnr⟩
      have HS3 := Lib.hid (HS2.out.below hy1)
      have hy1s := hy1.size
      have HNS := Lib.hid hns; clear hns
      clear q0 q1 q2 qq3 q4 lq hy1
      unfold Prg.val
      go_upto_region 16 with (fail)
      generalize hW : World.alloc _ _ = Y1
      have hal : Below y1.heap.size y1 Y1 := by subst hW; go_grown
      have hn1 : Blk Y1 y1.heap.size 27 nq.arr := by
        subst hW
        exact Blk.new _ _ _
      have HS4 := Lib.hid (HS3.out.below hal)
      have HNR := Lib.hid (hnr.below hal)
      have hY1 : y1.heap.size < Y1.heap.size := hn1.lt
      clear hW hal hnr HS3
      obtain ⟨bn, hbn⟩ : ∃ b, b = y1.heap.size := ⟨_, rfl⟩
      rw [← hbn] at hn1 hy1s hY1 ⊢
      clear hbn
      have HFN : Hid nq.Fits := Lib.hid (HNR.out.fits HNS.out HS4.out.fits)
      have HCN : Hid (nq.check = ⟨e2, a2, n2, d2⟩) := Lib.hid (HNS.out.check.trans HC3.out)
      have q0 : Y1.cell? ⟨bn, 0, none⟩ = some (.slice nq.Av nq.vars.length nq.cv) := hn1.cell 0
      have q1 : Y1.cell? ⟨bn, 1, none⟩ = some (.slice nq.Ao nq.vols.length nq.co) := hn1.cell 1
      have q2 : Y1.cell? ⟨bn, 2, none⟩ = some (.slice nq.Al nq.locks.length nq.cl) := hn1.cell 2
      have qq3 : Y1.cell? ⟨bn, 3, none⟩ = some (.slice nq.Ab nq.bars.length nq.cb) := hn1.cell 3
      have q4 : Y1.cell? ⟨bn, 4, none⟩ = some (.slice nq.At nq.threads.length nq.ct) := hn1.cell 4
      have lq : bn < Y1.heap.size := hn1.lt
      go_wp2_with fail
      refine (refCheck_any nq Y1 HFN.out HNR.out.in_).mono ?_
      rintro e y2 ⟨rfl, hy2⟩
      rw [HCN.out]
      unfold Spot.val spotV
      have HS5 := Lib.hid (HS4.out.below hy2)
      have HNR2 := Lib.hid (HNR.out.below hy2)
      have hn2 := hn1.below hy2 hn1.lt
      have hy2s := hy2.size
      clear q0 q1 q2 qq3 q4 lq hy2 HNR HS4 hn1
      have t0 : y2.cell? ⟨b7, 0, none⟩ = some (.int .i64 pa) := HS5.out.h7.cell 0
      have t1 : y2.cell? ⟨b7, 1, none⟩ = some (.int .i64 nu) := HS5.out.h7.cell 1
      have t2 : y2.cell? ⟨b7, 2, none⟩ = some (.int .i64 at_) := HS5.out.h7.cell 2
      have f0 := HS5.out.h7.frozen 0
      have f1 := HS5.out.h7.frozen 1
      have f2 := HS5.out.h7.frozen 2
      have l7 : b7 < y2.heap.size := HS5.out.h7.lt
      go_upto_region 17 with (fail)
      generalize hW : World.setCell _ _ _ = Y2
      have HS6 : Hid (ChSt w q3 bq b5 b7 #[.int .i64 pa, .int .i64 nu, .int .i64 at_] #[.int .i64 a2, .int .i64 n2, .int .i64 d2] Y2) := by
        subst hW
        exact ((HS5.out.set7 0 _).set7 1 _).set7 2 _
      have hn3 : Blk Y2 bn 27 nq.arr := by
        subst hW
        exact ((hn2.far (p := ⟨b7, 0, none⟩) (by simp only; omega) _).far (p := ⟨b7, 1, none⟩) (by simp only; omega) _).far (p := ⟨b7, 2, none⟩) (by simp only; omega) _
      have HNR3 : Hid (AllRows Y2 X2.heap.size (nq.rows noE)) := by
        subst hW
        exact ((HNR2.out.setFar (p := ⟨b7, 0, none⟩) (by simp only; omega) _).setFar (p := ⟨b7, 1, none⟩) (by simp only; omega) _).setFar (p := ⟨b7, 2, none⟩) (by simp only; omega) _
      clear hW t0 t1 t2 f0 f1 f2 l7 HS5 HNR2 hn2
      have q0 : Y2.cell? ⟨bq, 0, none⟩ = some (.slice q3.Av q3.vars.length q3.cv) := HS6.out.hq.cell 0
      have q1 : Y2.cell? ⟨bq, 1, none⟩ = some (.slice q3.Ao q3.vols.length q3.co) := HS6.out.hq.cell 1
      have q2 : Y2.cell? ⟨bq, 2, none⟩ = some (.slice q3.Al q3.locks.length q3.cl) := HS6.out.hq.cell 2
      have qq3 : Y2.cell? ⟨bq, 3, none⟩ = some (.slice q3.Ab q3.bars.length q3.cb) := HS6.out.hq.cell 3
      have q4 : Y2.cell? ⟨bq, 4, none⟩ = some (.slice q3.At q3.threads.length q3.ct) := HS6.out.hq.cell 4
      have lq : bq < Y2.heap.size := HS6.out.hq.lt
      go_wp2_with fail
      refine (check_any q3 Y2 HS6.out.fits HS6.out.rows.in_ HS6.out.ops ((HG.out.below HS6.out.bel).more HS6.out.bel.size)).mono ?_
      rintro e y3 ⟨rfl, hy3⟩
      rw [HC3.out]
      unfold Spot.val spotV
      have HS7 := Lib.hid (HS6.out.below hy3)
      have HNR4 := Lib.hid (HNR3.out.below hy3)
      have hn4 := hn3.below hy3 hn3.lt
      clear q0 q1 q2 qq3 q4 lq hy3 HNR3 HS6 hn3
      have t0 : y3.cell? ⟨b5, 0, none⟩ = some (.int .i64 pa) := HS7.out.h5.cell 0
      have t1 : y3.cell? ⟨b5, 1, none⟩ = some (.int .i64 nu) := HS7.out.h5.cell 1
      have t2 : y3.cell? ⟨b5, 2, none⟩ = some (.int .i64 at_) := HS7.out.h5.cell 2
      have f0 := HS7.out.h5.frozen 0
      have f1 := HS7.out.h5.frozen 1
      have f2 := HS7.out.h5.frozen 2
      have l5' : b5 < y3.heap.size := HS7.out.h5.lt
      go_upto_region 18 with (fail)
      generalize hW : World.setCell _ _ _ = Y3
      have HS8 : Hid (ChSt w q3 bq b5 b7 #[.int .i64 a2, .int .i64 n2, .int .i64 d2] #[.int .i64 a2, .int .i64 n2, .int .i64 d2] Y3) := by
        subst hW
        exact ((HS7.out.set5 0 _).set5 1 _).set5 2 _
      have hn5 : Blk Y3 bn 27 nq.arr := by
        subst hW
        exact ((hn4.far (p := ⟨b5, 0, none⟩) (by simp only; omega) _).far (p := ⟨b5, 1, none⟩) (by simp only; omega) _).far (p := ⟨b5, 2, none⟩) (by simp only; omega) _
      have HNR5 : Hid (AllRows Y3 X2.heap.size (nq.rows noE)) := by
        subst hW
        exact ((HNR4.out.setFar (p := ⟨b5, 0, none⟩) (by simp only; omega) _).setFar (p := ⟨b5, 1, none⟩) (by simp only; omega) _).setFar (p := ⟨b5, 2, none⟩) (by simp only; omega) _
      clear hW t0 t1 t2 f0 f1 f2 l5' HS7 HNR4 hn4
      have q0 : Y3.cell? ⟨bq, 0, none⟩ = some (.slice q3.Av q3.vars.length q3.cv) := HS8.out.hq.cell 0
      have q1 : Y3.cell? ⟨bq, 1, none⟩ = some (.slice q3.Ao q3.vols.length q3.co) := HS8.out.hq.cell 1
      have q2 : Y3.cell? ⟨bq, 2, none⟩ = some (.slice q3.Al q3.locks.length q3.cl) := HS8.out.hq.cell 2
      have qq3 : Y3.cell? ⟨bq, 3, none⟩ = some (.slice q3.Ab q3.bars.length q3.cb) := HS8.out.hq.cell 3
      have q4 : Y3.cell? ⟨bq, 4, none⟩ = some (.slice q3.At q3.threads.length q3.ct) := HS8.out.hq.cell 4
      have m0 : Y3.cell? ⟨bn, 0, none⟩ = some (.slice nq.Av nq.vars.length nq.cv) := hn5.cell 0
      have m1 : Y3.cell? ⟨bn, 1, none⟩ = some (.slice nq.Ao nq.vols.length nq.co) := hn5.cell 1
      have m2 : Y3.cell? ⟨bn, 2, none⟩ = some (.slice nq.Al nq.locks.length nq.cl) := hn5.cell 2
      have m3 : Y3.cell? ⟨bn, 3, none⟩ = some (.slice nq.Ab nq.bars.length nq.cb) := hn5.cell 3
      have m4 : Y3.cell? ⟨bn, 4, none⟩ = some (.slice nq.At nq.threads.length nq.ct) := hn5.cell 4
      have s0 : Y3.cell? ⟨b5, 0, none⟩ = some (.int .i64 a2) := HS8.out.h5.cell 0
      have s1 : Y3.cell? ⟨b5, 1, none⟩ = some (.int .i64 n2) := HS8.out.h5.cell 1
      have s2 : Y3.cell? ⟨b5, 2, none⟩ = some (.int .i64 d2) := HS8.out.h5.cell 2
      have t0 : Y3.cell? ⟨b7, 0, none⟩ = some (.int .i64 a2) := HS8.out.h7.cell 0
      have t1 : Y3.cell? ⟨b7, 1, none⟩ = some (.int .i64 n2) := HS8.out.h7.cell 1
      have t2 : Y3.cell? ⟨b7, 2, none⟩ = some (.int .i64 d2) := HS8.out.h7.cell 2
      have lq : bq < Y3.heap.size := HS8.out.hq.lt
      have ln : bn < Y3.heap.size := hn5.lt
      have ls : b5 < Y3.heap.size := HS8.out.h5.lt
      have lt7 : b7 < Y3.heap.size := HS8.out.h7.lt
      go_wp2_with (go_at_call 10; refine (num_any _ _).mono ?_; rintro e w8 ⟨rfl, rfl⟩)
      refine (same_any q3 nq Y3 HNS.out.symm HS8.out.fits HS8.out.rows.in_ (HNR5.out.in_)).mono ?_
      rintro e y4 ⟨rfl, hy4⟩
      have hbw4 : Below w.heap.size w y4 := HS8.out.bel.trans (hy4.mono HS8.out.bel.size)
      clear q0 q1 q2 qq3 q4 m0 m1 m2 m3 m4 s0 s1 s2 t0 t1 t2 lq ln ls lt7
      go_wp2_with fail
      refine (lives_any y4 ((HG.out.below hbw4).more hbw4.size)).mono ?_
      rintro e y5 ⟨rfl, hy5⟩
      go_wp2_with fail
      go_ret
      exact ⟨rfl, hbw4.trans (hy5.mono hbw4.size)⟩
end Go.Proofs.YtknnbckmdfnmaaaDoor
