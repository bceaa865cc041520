/- Contract of check.thread. Conditions: the thread's lists and the six lists of names lie in memory; the thread has code. -/
import Derived.Test.YtknnbckmdfnmaaaDoorPlaced
namespace Go.Proofs.YtknnbckmdfnmaaaDoor
open Go.RowKit

theorem thread_place {t : Thr} {cnt : Nat → Nat} {k : Nat} {x : Pla} (hl : t.places.length = t.code.length) (hs : scanQ t.places 0 = scanQ (t.places.drop k) k) (hx : t.places[k]? = some x) (hp : placedB x = false) : threadR t cnt = (115, k) := by
  unfold threadR
  rw [if_neg (by simpa using hl), hs, drop_at hx, scanQ, hp]
  rfl
theorem thread_code {t : Thr} {cnt : Nat → Nat} (hl : t.places.length = t.code.length) (hs : scanQ t.places 0 = none) {r : Int × Nat} (h : scanI t.code.length cnt t.code 0 = some r) : threadR t cnt = r := by
  unfold threadR
  rw [if_neg (by simpa using hl), hs, h]
theorem thread_end {t : Thr} {cnt : Nat → Nat} (hl : t.places.length = t.code.length) (hs : scanQ t.places 0 = none) (h : scanI t.code.length cnt t.code 0 = none) : threadR t cnt = if lastOp t.code = 8 ∨ lastOp t.code = 20 then (0, 0) else (118, t.code.length - 1) := by
  unfold threadR
  rw [if_neg (by simpa using hl), hs, h]
set_option maxHeartbeats 2000000 in
set_option maxRecDepth 100000 in
theorem thread_any (t : Thr) (w : World) (B ga : Nat) (A : Nat → Option Addr) (c : Nat → Nat) (N : Nat → List ByteArray) (hB : B ≤ w.heap.size) (hall : AllIn w B ga A c N) (hin : t.In w B) (hf : t.Fits) (hc : 1 ≤ t.code.length) (hop : ∀ x ∈ t.code, (Lit.int .i64 x.op).wf = true) :
    Calls Tryd.prog 26 #[t.val, .pointer (some ⟨ga, 0, none⟩)] w fun e w' => e = .returned (pairV (threadR t fun k => (N k).length)) ∧ Below w.heap.size w w' := by
  have HA := Lib.hid hall; clear hall
  have HI := Lib.hid hin; clear hin
  have HF := Lib.hid hf; clear hf
  have HO := Lib.hid hop; clear hop
  have h40 : t.code.length * 40 ≤ 140737488355328 := HF.out.code
  have h16 : t.places.length * 16 ≤ 140737488355328 := HF.out.places
  unfold Thr.val
  by_cases hlen : t.places.length = t.code.length
  · have HL := Lib.hid hlen
    have heq : ((t.places.length : Int) != (t.code.length : Int)) = false := by rw [hlen]; simp
    clear hlen
    go_enter Tryd.func26, Tryd.ntmps26
    go_wp2_with fail
    generalize hW : World.alloc _ _ = W1
    have hb1 : Below w.heap.size w W1 := by subst hW; go_grown
    have q0 : W1.cell? ⟨w.heap.size, 0, none⟩ = some (.string t.name) := by subst hW; simp [go_sem]
    have q1 : W1.cell? ⟨w.heap.size, 1, none⟩ = some (.slice t.Ac t.code.length t.cc) := by subst hW; simp [go_sem]
    have q2 : W1.cell? ⟨w.heap.size, 2, none⟩ = some (.slice t.Ap t.places.length t.cp) := by subst hW; simp [go_sem]
    have hs1 : w.heap.size + 1 ≤ W1.heap.size := by subst hW; simp
    clear hW
    go_loopw [22] (fun i wr => ∃ k : Nat, k ≤ t.places.length ∧ i = .int .i64 k ∧ scanQ t.places 0 = scanQ (t.places.drop k) k ∧ Below W1.heap.size W1 wr) (fun i _ => t.places.length - (intOf i).toNat)
    case atStart => exact ⟨0, by omega, rfl, rfl, Below.refl _ _⟩
    case round =>
      obtain ⟨k, hk, rfl, hsc, hb2⟩ := hrel
      have HSC := Lib.hid hsc; clear hsc
      have hw2 := hb2.size
      have hbw : Below w.heap.size w wr := hb1.trans (hb2.mono (by omega))
      by_cases hlt : k < t.places.length
      · obtain ⟨x, hx0⟩ := get_some hlt
        obtain ⟨g, off, hA, hgB, r0, r1⟩ := (HI.out.below (hbw.mono hB)).places.pla hx0
        have HD := Lib.hid (List.drop_eq_getElem_cons hlt)
        have HX := Lib.hid hx0
        clear hx0
        rw [hA]
        clear hA
        cases hpl : placedB x with
        | false =>
          have hfin : Hid (threadR t (fun k => (N k).length) = (115, k)) := thread_place HL.out HSC.out HX.out hpl
          go_wp2_with (go_at_call 35; refine (placed_any x _).mono ?_; rintro e w' ⟨rfl, hb3⟩; rw [hpl])
          go_ret2
          refine ⟨ret_pair (r := (115, k)) hfin.out.symm, (hbw.alloc (by omega) _).trans (hb3.mono (by simp; omega))⟩
        | true =>
          go_wp2_with (go_at_call 35; refine (placed_any x _).mono ?_; rintro e w' ⟨rfl, hb3⟩; rw [hpl])
          go_roundw
          case rel => exact ⟨k + 1, by omega, by go_num, by rw [HSC.out, drop_at HX.out, scanQ, if_pos hpl], (hb2.alloc (by omega) _).trans (hb3.mono (by simp; omega))⟩
          case measure => simp [intOf]; omega
      · obtain rfl : k = t.places.length := by omega
        have hQ : Hid (scanQ t.places 0 = none) := by
          show _ = _
          rw [HSC.out, List.drop_of_length_le (Nat.le_refl _)]
          rfl
        obtain ⟨wo, rfl⟩ : ∃ x : World, x = wr := ⟨_, rfl⟩
        have q1 : wo.cell? ⟨w.heap.size, 1, none⟩ = some (.slice t.Ac t.code.length t.cc) := (hb2.cell (p := ⟨w.heap.size, 1, none⟩) (by show w.heap.size < _; omega)).trans q1
        have hws : w.heap.size < wo.heap.size := by omega
        go_wp2_with fail
        go_loopw [35] (fun i wq => ∃ k : Nat, k ≤ t.code.length ∧ i = .int .i64 k ∧ scanI t.code.length (fun k => (N k).length) t.code 0 = scanI t.code.length (fun k => (N k).length) (t.code.drop k) k ∧ Below wo.heap.size wo wq) (fun i _ => t.code.length - (intOf i).toNat)
        case atStart => exact ⟨0, by omega, rfl, rfl, Below.refl _ _⟩
        case round =>
          obtain ⟨k, hk, rfl, hsc, hb3⟩ := hrel
          have HSC := Lib.hid hsc; clear hsc
          have hbv : Below w.heap.size w wr := hbw.trans (hb3.mono (by omega))
          have hwr := hb3.size
          have hwv : w.heap.size < wr.heap.size := by omega
          by_cases hlt : k < t.code.length
          · obtain ⟨x, hx0⟩ := get_some hlt
            obtain ⟨g, off, hA, hgB, r0, r1, r2, r3, r4⟩ := (HI.out.below (hbv.mono hB)).code.ins hx0
            have HX := Lib.hid hx0
            have HW := HO.out x (get_mem hx0)
            clear hx0
            have q1 : wr.cell? ⟨w.heap.size, 1, none⟩ = some (.slice t.Ac t.code.length t.cc) := (hb3.cell (p := ⟨w.heap.size, 1, none⟩) hws).trans q1
            rw [hA] at q1 ⊢
            clear hA
            by_cases ho : x.op < 1 ∨ 20 < x.op
            · have hfin : Hid (threadR t (fun k => (N k).length) = (116, k)) := thread_code HL.out hQ.out (by rw [HSC.out, drop_at HX.out, scanI, if_pos ho])
              rcases Int.lt_or_le x.op 1 with h1 | h1
              · clear ho
                go_wp2_with fail
                go_ret2
                exact ⟨ret_pair (r := (116, k)) hfin.out.symm, hbv.alloc (by omega) _⟩
              · have h2 : 20 < x.op := by omega
                clear ho
                go_wp2_with fail
                go_ret2
                exact ⟨ret_pair (r := (116, k)) hfin.out.symm, hbv.alloc (by omega) _⟩
            · have h1 : 1 ≤ x.op := by omega
              have h2 : x.op ≤ 20 := by omega
              have HO2 := Lib.hid ho
              clear ho
              have hbA := Lib.hid hbv
              cases hfb : fieldB x t.code.length (fun k => (N k).length) with
              | false =>
                have hfin : Hid (threadR t (fun k => (N k).length) = (117, k)) := thread_code HL.out hQ.out (by rw [HSC.out, drop_at HX.out, scanI, if_neg HO2.out, hfb]; rfl)
                go_wp2_with (go_at_call 36; refine (field_any x _ _ B ga A c N (by simp; omega) HW ((HA.out.below (hbA.out.mono hB)).below ((Below.refl _ _).alloc (by omega) _))).mono ?_; rintro e w' ⟨rfl, hb4⟩; rw [hfb])
                go_ret2
                exact ⟨ret_pair (r := (117, k)) hfin.out.symm, (hbv.alloc (by omega) _).trans (hb4.mono (by simp; omega))⟩
              | true =>
                go_wp2_with (go_at_call 36; refine (field_any x _ _ B ga A c N (by simp; omega) HW ((HA.out.below (hbA.out.mono hB)).below ((Below.refl _ _).alloc (by omega) _))).mono ?_; rintro e w' ⟨rfl, hb4⟩; rw [hfb])
                go_roundw
                case rel => exact ⟨k + 1, by omega, by go_num, by rw [HSC.out, drop_at HX.out, scanI, if_neg HO2.out, if_pos hfb], (hb3.alloc (by omega) _).trans (hb4.mono (by simp; omega))⟩
                case measure => simp [intOf]; omega
          · obtain rfl : k = t.code.length := by omega
            have hfin := Lib.hid (thread_end (cnt := fun k => (N k).length) HL.out hQ.out (by rw [HSC.out, List.drop_of_length_le (Nat.le_refl _)]; rfl))
            have hlst : t.code.length - 1 < t.code.length := by omega
            obtain ⟨x, hx0⟩ := get_some hlst
            obtain ⟨g, off, hA, hgB, r0, r1, r2, r3, r4⟩ := (HI.out.below (hbv.mono hB)).code.ins hx0
            have hlo : Hid (lastOp t.code = x.op) := by
              show _ = _
              unfold lastOp
              rw [List.getD_eq_getElem?_getD, hx0]
              rfl
            clear hx0
            have q1 : wr.cell? ⟨w.heap.size, 1, none⟩ = some (.slice t.Ac t.code.length t.cc) := (hb3.cell (p := ⟨w.heap.size, 1, none⟩) hws).trans q1
            rw [hA] at q1
            clear hA hk hlt
            go_wp2_with fail
            · go_ret2
              refine ⟨ret_pair (r := (0, 0)) ?_, hbv⟩
              rw [hfin.out, hlo.out]
              simp [*]
            · go_ret2
              refine ⟨?_, hbv⟩
              have e1 : ((t.code.length : Int) - 1) = ((t.code.length - 1 : Nat) : Int) := by omega
              rw [e1]
              refine ret_pair (r := (118, t.code.length - 1)) ?_
              rw [hfin.out, hlo.out]
              simp_all
            · go_ret2
              refine ⟨ret_pair (r := (0, 0)) ?_, hbv⟩
              rw [hfin.out, hlo.out]
              simp_all
  · have HL := Lib.hid hlen
    have hne : ((t.places.length : Int) != (t.code.length : Int)) = true := by rw [bne_iff_ne]; omega
    clear hlen
    go_enter Tryd.func26, Tryd.ntmps26
    go_wp2_with fail
    go_ret2
    refine ⟨ret_pair (r := (115, 0)) ?_, by go_grown⟩
    unfold threadR
    rw [if_pos HL.out]
end Go.Proofs.YtknnbckmdfnmaaaDoor
