/- Contracts of abreastref11.place and abreastref11.thread: the same plain functions as those of check.placed and check.thread. Conditions: the thread's lists lie in memory; the thread has code. -/
import Derived.Test.YtknnbckmdfnmaaaDoorRefField
import Derived.Test.YtknnbckmdfnmaaaDoorThread
import Derived.StillTailTactics
namespace Go.Proofs.YtknnbckmdfnmaaaDoor
open Go.RowKit

set_option maxHeartbeats 400000 in
theorem refPlace_any (q : Pla) (w : World) : Calls Tryd.prog 39 #[q.val] w fun e w' => e = .returned (.bool (placedB q)) ∧ Below w.heap.size w w' := by
  unfold Pla.val
  go_enter Tryd.func39, Tryd.ntmps39
  go_wp2
  all_goals (go_ret; refine ⟨ret_bool ?_, by go_grown⟩)
  all_goals (unfold placedB; refine bool_iff ?_; first | (simp; done) | (simp; omega) | omega | (simp at *; omega) | (simp_all; omega))
set_option maxHeartbeats 2000000 in
set_option maxRecDepth 100000 in
theorem refThread_any (t : Thr) (w : World) (B : Nat) (cnt : Nat → Nat) (hB : B ≤ w.heap.size) (hin : t.In w B) (hf : t.Fits) (hc : 1 ≤ t.code.length) :
    Calls Tryd.prog 30 #[t.val, cntV cnt] w fun e w' => e = .returned (pairV (threadR t cnt)) ∧ Below w.heap.size w w' := by
  have HI := Lib.hid hin; clear hin
  have HF := Lib.hid hf; clear hf
  have h40 : t.code.length * 40 ≤ 140737488355328 := HF.out.code
  have h16 : t.places.length * 16 ≤ 140737488355328 := HF.out.places
  unfold Thr.val cntV
  by_cases hlen : t.places.length = t.code.length
  · have HL := Lib.hid hlen
    have heq : ((t.places.length : Int) != (t.code.length : Int)) = false := by rw [hlen]; simp
    clear hlen
    go_enter Tryd.func30, Tryd.ntmps30
    go_wp2_with fail
    generalize hW : World.alloc _ _ = W1
    have hb1 : Below w.heap.size w W1 := by subst hW; go_grown
    have q1 : W1.cell? ⟨w.heap.size, 1, none⟩ = some (.slice t.Ac t.code.length t.cc) := by subst hW; simp [go_sem]
    have q2 : W1.cell? ⟨w.heap.size, 2, none⟩ = some (.slice t.Ap t.places.length t.cp) := by subst hW; simp [go_sem]
    have hcb : Blk W1 (w.heap.size + 1) 75 #[.int .i64 (cnt 0 : Int), .int .i64 (cnt 1 : Int), .int .i64 (cnt 2 : Int), .int .i64 (cnt 3 : Int), .int .i64 (cnt 4 : Int), .int .i64 (cnt 5 : Int)] := by
      subst hW
      exact (Blk.new _ _ _).moved (by simp)
    have HCB := Lib.hid hcb; clear hcb
    have hs1 : w.heap.size + 1 + 1 ≤ W1.heap.size := by subst hW; simp
    clear hW
    go_loopw [6] (fun i wr => ∃ k : Nat, k ≤ t.places.length ∧ i = .int .i64 k ∧ scanQ t.places 0 = scanQ (t.places.drop k) k ∧ Below W1.heap.size W1 wr) (fun i _ => t.places.length - (intOf i).toNat)
    case atStart => exact ⟨0, by omega, rfl, rfl, Below.refl _ _⟩
    case round =>
      obtain ⟨k, hk, rfl, hsc, hb2⟩ := hrel
      have HSC := Lib.hid hsc; clear hsc
      have hw2 := hb2.size
      have hbw : Below w.heap.size w wr := hb1.trans (hb2.mono (by omega))
      obtain ⟨wo, rfl⟩ : ∃ x : World, x = wr := ⟨_, rfl⟩
      have r1 : wo.cell? ⟨w.heap.size, 1, none⟩ = some (.slice t.Ac t.code.length t.cc) := (hb2.cell (p := ⟨w.heap.size, 1, none⟩) (by show w.heap.size < _; omega)).trans q1
      have r2 : wo.cell? ⟨w.heap.size, 2, none⟩ = some (.slice t.Ap t.places.length t.cp) := (hb2.cell (p := ⟨w.heap.size, 2, none⟩) (by show w.heap.size < _; omega)).trans q2
      have hws : w.heap.size < wo.heap.size := by omega
      clear q1 q2
      by_cases hlt : k < t.places.length
      · obtain ⟨x, hx0⟩ := get_some hlt
        obtain ⟨g, off, hA, hgB, p0, p1⟩ := (HI.out.below (hbw.mono hB)).places.pla hx0
        have HX := Lib.hid hx0
        clear hx0
        rw [hA] at r2 ⊢
        clear hA
        cases hpl : placedB x with
        | false =>
          have hfin : Hid (threadR t cnt = (115, k)) := thread_place HL.out HSC.out HX.out hpl
          go_wp2_with (go_at_call 39; refine (refPlace_any x _).mono ?_; rintro e w' ⟨rfl, hb3⟩; rw [hpl])
          go_ret2
          exact ⟨ret_pair (r := (115, k)) hfin.out.symm, hbw.trans (hb3.mono (by omega))⟩
        | true =>
          go_wp2_with (go_at_call 39; refine (refPlace_any x _).mono ?_; rintro e w' ⟨rfl, hb3⟩; rw [hpl])
          go_roundw
          case rel => exact ⟨k + 1, by omega, by go_num, by rw [HSC.out, drop_at HX.out, scanQ, if_pos hpl], hb2.trans (hb3.mono (by omega))⟩
          case measure => simp [intOf]; omega
      · obtain rfl : k = t.places.length := by omega
        have hQ : Hid (scanQ t.places 0 = none) := by
          show _ = _
          rw [HSC.out, List.drop_of_length_le (Nat.le_refl _)]
          rfl
        have hcb2 := Lib.hid (HCB.out.below hb2 (by omega))
        clear hk hlt
        go_wp2_with fail
        go_loopw [7] (fun i wq => ∃ k : Nat, k ≤ t.code.length ∧ i = .int .i64 k ∧ scanI t.code.length cnt t.code 0 = scanI t.code.length cnt (t.code.drop k) k ∧ Below wo.heap.size wo wq) (fun i _ => t.code.length - (intOf i).toNat)
        case atStart => exact ⟨0, by omega, rfl, rfl, Below.refl _ _⟩
        case round =>
          obtain ⟨k, hk, rfl, hsc, hb3⟩ := hrel
          have HSC2 := Lib.hid hsc; clear hsc
          have hbv : Below w.heap.size w wr := hbw.trans (hb3.mono (by omega))
          have hwr := hb3.size
          obtain ⟨wp, rfl⟩ : ∃ x : World, x = wr := ⟨_, rfl⟩
          have s1 : wp.cell? ⟨w.heap.size, 1, none⟩ = some (.slice t.Ac t.code.length t.cc) := (hb3.cell (p := ⟨w.heap.size, 1, none⟩) hws).trans r1
          have hcb3 := hcb2.out.below hb3 (by omega)
          have k0 : wp.cell? ⟨w.heap.size + 1, 0, none⟩ = some (.int .i64 (cnt 0 : Int)) := hcb3.cell 0
          have k1 : wp.cell? ⟨w.heap.size + 1, 1, none⟩ = some (.int .i64 (cnt 1 : Int)) := hcb3.cell 1
          have k2 : wp.cell? ⟨w.heap.size + 1, 2, none⟩ = some (.int .i64 (cnt 2 : Int)) := hcb3.cell 2
          have k3 : wp.cell? ⟨w.heap.size + 1, 3, none⟩ = some (.int .i64 (cnt 3 : Int)) := hcb3.cell 3
          have k4 : wp.cell? ⟨w.heap.size + 1, 4, none⟩ = some (.int .i64 (cnt 4 : Int)) := hcb3.cell 4
          have k5 : wp.cell? ⟨w.heap.size + 1, 5, none⟩ = some (.int .i64 (cnt 5 : Int)) := hcb3.cell 5
          have hwv : w.heap.size < wp.heap.size := by omega
          have hwv1 : w.heap.size + 1 < wp.heap.size := by omega
          clear r1 r2 hcb3
          by_cases hlt : k < t.code.length
          · obtain ⟨x, hx0⟩ := get_some hlt
            obtain ⟨g, off, hA, hgB, i0, i1, i2, i3, i4⟩ := (HI.out.below (hbv.mono hB)).code.ins hx0
            have HX := Lib.hid hx0
            clear hx0
            rw [hA] at s1 ⊢
            clear hA
            by_cases ho : x.op < 1 ∨ 20 < x.op
            · have hfin : Hid (threadR t cnt = (116, k)) := thread_code HL.out hQ.out (by rw [HSC2.out, drop_at HX.out, scanI, if_pos ho])
              rcases Int.lt_or_le x.op 1 with h1 | h1
              · clear ho
                go_wp2_with fail
                go_ret2
                exact ⟨ret_pair (r := (116, k)) hfin.out.symm, hbv⟩
              · have h2 : 20 < x.op := by omega
                clear ho
                go_wp2_with fail
                go_ret2
                exact ⟨ret_pair (r := (116, k)) hfin.out.symm, hbv⟩
            · have h1 : 1 ≤ x.op := by omega
              have h2 : x.op ≤ 20 := by omega
              have HO2 := Lib.hid ho
              clear ho
              cases hfb : fieldB x t.code.length cnt with
              | false =>
                have hfin : Hid (threadR t cnt = (117, k)) := thread_code HL.out hQ.out (by rw [HSC2.out, drop_at HX.out, scanI, if_neg HO2.out, hfb]; rfl)
                go_wp2_with fail
                go_still_tail 9, (by kernel_rfl)
                change wpList _ _ _ _ _ wp.drew
                generalize hwd : wp.drew = wd
                have hbd : Below w.heap.size w wd := by subst hwd; exact hbv.drew
                have hsd : wp.heap.size = wd.heap.size := by subst hwd; rfl
                go_wp2_with (go_at_call 40; refine (refField_any x _ cnt _).mono ?_; rintro e w' ⟨rfl, hb4⟩; rw [hfb])
                go_ret2
                exact ⟨ret_pair (r := (117, k)) hfin.out.symm, hbd.trans (hb4.mono (by omega))⟩
              | true =>
                go_wp2_with fail
                go_still_tail 9, (by kernel_rfl)
                change wpList _ _ _ _ _ wp.drew
                generalize hwd : wp.drew = wd
                have hbd : Below wo.heap.size wo wd := by subst hwd; exact hb3.drew
                have hsd : wp.heap.size = wd.heap.size := by subst hwd; rfl
                go_wp2_with (go_at_call 40; refine (refField_any x _ cnt _).mono ?_; rintro e w' ⟨rfl, hb4⟩; rw [hfb])
                go_roundw
                case rel => exact ⟨k + 1, by omega, by go_num, by rw [HSC2.out, drop_at HX.out, scanI, if_neg HO2.out, if_pos hfb], hbd.trans (hb4.mono (by omega))⟩
                case measure => simp [intOf]; omega
          · obtain rfl : k = t.code.length := by omega
            have hfin := Lib.hid (thread_end (cnt := cnt) HL.out hQ.out (by rw [HSC2.out, List.drop_of_length_le (Nat.le_refl _)]; rfl))
            have hlst : t.code.length - 1 < t.code.length := by omega
            obtain ⟨x, hx0⟩ := get_some hlst
            obtain ⟨g, off, hA, hgB, i0, i1, i2, i3, i4⟩ := (HI.out.below (hbv.mono hB)).code.ins hx0
            have hlo : Hid (lastOp t.code = x.op) := by
              show _ = _
              unfold lastOp
              rw [List.getD_eq_getElem?_getD, hx0]
              rfl
            clear hx0
            rw [hA] at s1
            clear hA hk hlt k0 k1 k2 k3 k4 k5
            go_wp2_with fail
            · go_ret2
              refine ⟨ret_pair (r := (0, 0)) ?_, hbv⟩
              rw [hfin.out, hlo.out]
              simp [*]
            · go_quiet (fail)
              go_wp2_with fail
              go_ret2
              refine ⟨?_, below_drewN hbv _⟩
              have e1 : ((t.code.length : Int) - 1) = ((t.code.length - 1 : Nat) : Int) := by omega
              rw [e1]
              refine ret_pair (r := (118, t.code.length - 1)) ?_
              rw [hfin.out, hlo.out]
              simp_all
            · go_ret2
              refine ⟨ret_pair (r := (0, 0)) ?_, hbv⟩
              rw [hfin.out, hlo.out]
              simp_all
  · have HL := Lib.hid hlen
    have hne : ((t.places.length : Int) != (t.code.length : Int)) = true := by rw [bne_iff_ne]; omega
    clear hlen
    go_enter Tryd.func30, Tryd.ntmps30
    go_wp2_with fail
    go_ret2
    refine ⟨ret_pair (r := (115, 0)) ?_, by go_grown⟩
    unfold threadR
    rw [if_pos HL.out]
end Go.Proofs.YtknnbckmdfnmaaaDoor
