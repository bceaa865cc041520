/- Contract of abreastlaw11.left: true of what lent made, the marks still there. Conditions: the two programs have the same content, the first lies in rows of the call's own with marks. -/
import Derived.Test.YtknnbckmdfnmaaaDoorCopied
import Derived.Test.YtknnbckmdfnmaaaDoorSameFn
namespace Go.Proofs.YtknnbckmdfnmaaaDoor
open Go.RowKit

set_option maxHeartbeats 4000000 in
set_option maxRecDepth 100000 in
theorem left_any (q p : Prg) (w : World) {base : Nat} (hs : q.Same p) (hq : AllRows w base (q.rows fun _ => true)) (hf : p.Fits) (hip : p.In w w.heap.size) :
    Calls Tryd.prog 11 #[q.val, p.val] w fun e w' => e = .returned (.bool true) ∧ Below w.heap.size w w' := by
  obtain ⟨A1, c1, k1, A2, c2, k2, A3, c3, k3, A4, c4, k4, A5, c5, l⟩ := q
  obtain rfl : k1 = p.vars := hs.vars
  obtain rfl : k2 = p.vols := hs.vols
  obtain rfl : k3 = p.locks := hs.locks
  obtain rfl : k4 = p.bars := hs.bars
  have hfq := hq.fits hs hf
  have hiq := hq.in_
  have l1 : p.vars.length * 24 ≤ 140737488351232 := hf.vars
  have l2 : p.vols.length * 24 ≤ 140737488351232 := hf.vols
  have l3 : p.locks.length * 16 ≤ 140737488351232 := hf.locks
  have l4 : p.bars.length * 24 ≤ 140737488351232 := hf.bars
  have l5 : p.threads.length * 64 ≤ 140737488351232 := hf.threads
  have hlen : l.length = p.threads.length := hs.len
  have HLEN := Lib.hid hlen; clear hlen
  have HS := Lib.hid hs; clear hs
  have HF := Lib.hid hfq; clear hfq
  have HIQ := Lib.hid hiq; clear hiq
  have HIP := Lib.hid hip; clear hip
  have HQ := Lib.hid hq; clear hq hf
  unfold Prg.val
  go_enter Tryd.func11, Tryd.ntmps11
  go_wp2_with fail
  generalize hW : World.alloc _ _ = W1
  have hb1 : Below w.heap.size w W1 := by subst hW; go_grown
  have hqb : Blk W1 w.heap.size 27 (Prg.arr ⟨A1, c1, p.vars, A2, c2, p.vols, A3, c3, p.locks, A4, c4, p.bars, A5, c5, l⟩) := by
    subst hW
    exact (Blk.new w _ _).alloc _
  have hpb : Blk W1 (w.heap.size + 1) 27 p.arr := by
    subst hW
    exact (Blk.new _ _ _).moved (by simp)
  have hs1 : W1.heap.size = w.heap.size + 1 + 1 := by subst hW; simp
  clear hW
  refine (same_any ⟨A1, c1, p.vars, A2, c2, p.vols, A3, c3, p.locks, A4, c4, p.bars, A5, c5, l⟩ p W1 HS.out HF.out ((HIQ.out.below hb1).more (by omega)) ((HIP.out.below hb1).more (by omega))).mono ?_
  rintro e w1 ⟨rfl, hb2⟩
  have hw1 := hb2.size
  have hbw : Below w.heap.size w w1 := hb1.trans (hb2.mono (by omega))
  have hq1 : AllRows w1 base _ := HQ.out.below hbw
  have hqb1 := hqb.below hb2 hqb.lt
  have hpb1 := hpb.below hb2 hpb.lt
  clear hqb hpb hb1 hb2
  have a0 : w1.cell? ⟨w.heap.size, 0, none⟩ = some (.slice A1 p.vars.length c1) := hqb1.cell 0
  have a1 : w1.cell? ⟨w.heap.size, 1, none⟩ = some (.slice A2 p.vols.length c2) := hqb1.cell 1
  have a2 : w1.cell? ⟨w.heap.size, 2, none⟩ = some (.slice A3 p.locks.length c3) := hqb1.cell 2
  have a3 : w1.cell? ⟨w.heap.size, 3, none⟩ = some (.slice A4 p.bars.length c4) := hqb1.cell 3
  have a4 : w1.cell? ⟨w.heap.size, 4, none⟩ = some (.slice A5 l.length c5) := hqb1.cell 4
  have b0 : w1.cell? ⟨w.heap.size + 1, 0, none⟩ = some (.slice p.Av p.vars.length p.cv) := hpb1.cell 0
  have b1 : w1.cell? ⟨w.heap.size + 1, 1, none⟩ = some (.slice p.Ao p.vols.length p.co) := hpb1.cell 1
  have b2 : w1.cell? ⟨w.heap.size + 1, 2, none⟩ = some (.slice p.Al p.locks.length p.cl) := hpb1.cell 2
  have b3 : w1.cell? ⟨w.heap.size + 1, 3, none⟩ = some (.slice p.Ab p.bars.length p.cb) := hpb1.cell 3
  have b4 : w1.cell? ⟨w.heap.size + 1, 4, none⟩ = some (.slice p.At p.threads.length p.ct) := hpb1.cell 4
  have r1 : (rowOf 47 2 encN A1 c1 p.vars [mkN]).Owns w1 base := hq1.own .vars
  have r2 : (rowOf 47 2 encN A2 c2 p.vols [mkN]).Owns w1 base := hq1.own .vols
  have r3 : (rowOf 9 1 encS A3 c3 p.locks [mkS]).Owns w1 base := hq1.own .locks
  have r4 : (rowOf 65 2 encN A4 c4 p.bars [mkN]).Owns w1 base := hq1.own .bars
  have r5 : (rowOf 42 3 Thr.cells A5 c5 l [mkT]).Owns w1 base := hq1.own .threads
  have HQ1 := Lib.hid hq1; clear hq1 HQ
  obtain ⟨g1, rfl, _, _, n1, m1⟩ := row_mark (enc := encN) (size := 2) (fun _ => rfl) r1
  obtain ⟨g2, rfl, _, _, n2, m2⟩ := row_mark (enc := encN) (size := 2) (fun _ => rfl) r2
  obtain ⟨g3, rfl, _, _, n3, m3⟩ := row_mark (enc := encS) (size := 1) (fun _ => rfl) r3
  obtain ⟨g4, rfl, _, _, n4, m4⟩ := row_mark (enc := encN) (size := 2) (fun _ => rfl) r4
  obtain ⟨g5, rfl, _, _, n5, m5⟩ := row_mark (enc := Thr.cells) (size := 3) (fun _ => rfl) r5
  have e1 : w1.cell? ⟨g1, p.vars.length * 2 + 1, none⟩ = some (.int .i64 77) := m1 1 _ rfl
  have e2 : w1.cell? ⟨g2, p.vols.length * 2 + 1, none⟩ = some (.int .i64 77) := m2 1 _ rfl
  have e3 : w1.cell? ⟨g3, p.locks.length, none⟩ = some (.string ⟨#[55, 55]⟩) := by have h := m3 0 (.string ⟨#[55, 55]⟩) rfl; simpa using h
  have e4 : w1.cell? ⟨g4, p.bars.length * 2 + 1, none⟩ = some (.int .i64 77) := m4 1 _ rfl
  have e5 : w1.cell? ⟨g5, p.threads.length * 3, none⟩ = some (.string ⟨#[55, 55]⟩) := by rw [← HLEN.out]; have h := m5 0 (.string ⟨#[55, 55]⟩) rfl; simpa using h
  have n5' : p.threads.length + 1 ≤ c5 := by rw [← HLEN.out]; exact n5
  rw [HLEN.out] at a4
  clear r1 r2 r3 r4 r5 m1 m2 m3 m4 m5 n5
  have i1 : (p.vars.length : Int) + 1 ≤ (c1 : Int) := by omega
  have i2 : (p.vols.length : Int) + 1 ≤ (c2 : Int) := by omega
  have i3 : (p.locks.length : Int) + 1 ≤ (c3 : Int) := by omega
  have i4 : (p.bars.length : Int) + 1 ≤ (c4 : Int) := by omega
  have i5 : (p.threads.length : Int) + 1 ≤ (c5 : Int) := by omega
  go_upto_region 10 with (fail)
  clear e1 e2 e3 e4 e5 i1 i2 i3 i4 i5
  go_wp2_with fail
  go_loop [10] (fun i => ∃ k : Nat, k ≤ p.threads.length ∧ i = .int .i64 k) (fun i => p.threads.length - (intOf i).toNat)
  case atStart => exact ⟨0, by omega, rfl⟩
  case round =>
    obtain ⟨k, hk, rfl⟩ := hrel
    by_cases hlt : k < p.threads.length
    · obtain ⟨t, ht⟩ := get_some (l := l) (k := k) (by have := HLEN.out; omega)
      have hx : ∀ (j : Nat) (u : Value), t.cells[j]? = some u → w1.cell? ⟨g5, k * 3 + j, none⟩ = some u := by
        intro j u hu
        refine HQ1.out.cell .threads rfl (i := k * 3 + j) ?_
        exact flat_get (enc := Thr.cells) (size := 3) (fun _ => rfl) (l ++ [mkT]) k j t u (by rw [List.getElem?_append_left (by have := HLEN.out; omega)]; exact ht) hu
      have t1 : w1.cell? ⟨g5, k * 3 + 1, none⟩ = some (.slice t.Ac t.code.length t.cc) := hx 1 _ rfl
      have t2 : w1.cell? ⟨g5, k * 3 + 2, none⟩ = some (.slice t.Ap t.places.length t.cp) := hx 2 _ rfl
      obtain ⟨g6, hA6, _, _, n6, m6⟩ := row_mark (enc := encI) (size := 5) (m := mkI) (fun _ => rfl) (HQ1.out.code_ ht)
      obtain ⟨g7, hA7, _, _, n7, m7⟩ := row_mark (enc := encP) (size := 2) (m := mkP) (fun _ => rfl) (HQ1.out.pl_ ht)
      rw [hA6] at t1
      rw [hA7] at t2
      have e6 : w1.cell? ⟨g6, t.code.length * 5 + 4, none⟩ = some (.int .i64 77) := m6 4 _ rfl
      have e7 : w1.cell? ⟨g7, t.places.length * 2, none⟩ = some (.int .i64 77) := m7 0 _ rfl
      have lc := (HF.out.fthreads t (get_mem ht)).code
      have lp := (HF.out.fthreads t (get_mem ht)).places
      clear hx m6 m7 hA6 hA7 ht
      have i6 : (t.code.length : Int) + 1 ≤ (t.cc : Int) := by omega
      have i7 : (t.places.length : Int) + 1 ≤ (t.cp : Int) := by omega
      have hk0 : (0 : Int) ≤ (k : Int) := by omega
      have hk1 : (k : Int) < (p.threads.length : Int) := by omega
      go_wp2_with fail
      go_round
      case rel => exact ⟨k + 1, by omega, by go_num⟩
      case measure => simp [intOf]; omega
    · obtain rfl : k = p.threads.length := by omega
      clear hk hlt
      go_wp2_with fail
      go_ret
      exact ⟨rfl, hbw⟩
end Go.Proofs.YtknnbckmdfnmaaaDoor
