/- Contract of abreastref11.Same: true of two programs of the same content. Condition: both lie in memory and fit. -/
import Derived.Test.YtknnbckmdfnmaaaDoorSame
namespace Go.Proofs.YtknnbckmdfnmaaaDoor
open Go.RowKit

set_option maxHeartbeats 4000000 in
set_option maxRecDepth 100000 in
theorem same_any (p q : Prg) (w : World) (hs : p.Same q) (hf : p.Fits) (hip : p.In w w.heap.size) (hiq : q.In w w.heap.size) :
    Calls Tryd.prog 13 #[p.val, q.val] w fun e w' => e = .returned (.bool true) ∧ Below w.heap.size w w' := by
  have HF := Lib.hid hf; clear hf
  have HP := Lib.hid hip; clear hip
  have HQ := Lib.hid hiq; clear hiq
  obtain ⟨Av, cv, vars, Ao, co, vols, Al, cl, locks, Ab, cb, bars, At, ct, threads⟩ := p
  obtain ⟨Bv, dv, vars', Bo, do_, vols', Bl, dl, locks', Bb, db, bars', Bt, dt, threads'⟩ := q
  have HS := Lib.hid hs
  obtain rfl : vars = vars' := hs.vars
  obtain rfl : vols = vols' := hs.vols
  obtain rfl : locks = locks' := hs.locks
  obtain rfl : bars = bars' := hs.bars
  have hlen : threads.length = threads'.length := hs.len
  clear hs
  unfold Prg.val
  dsimp only
  rw [← hlen]
  have h1 : vars.length * 24 ≤ 140737488351232 := HF.out.vars
  have h2 : vols.length * 24 ≤ 140737488351232 := HF.out.vols
  have h3 : locks.length * 16 ≤ 140737488351232 := HF.out.locks
  have h4 : bars.length * 24 ≤ 140737488351232 := HF.out.bars
  have h5 : threads.length * 64 ≤ 140737488351232 := HF.out.threads
  have HL := Lib.hid hlen; clear hlen
  go_enter Tryd.func13, Tryd.ntmps13
  go_wp2_with fail
  generalize hW : World.alloc _ _ = W1
  have hb1 : Below w.heap.size w W1 := by subst hW; go_grown
  have bP1 : Blk W1 w.heap.size 27 #[.slice Av vars.length cv, .slice Ao vols.length co, .slice Al locks.length cl, .slice Ab bars.length cb, .slice At threads.length ct] := by
    subst hW
    exact (Blk.new w _ _).alloc _
  have bQ1 : Blk W1 (w.heap.size + 1) 27 #[.slice Bv vars.length dv, .slice Bo vols.length do_, .slice Bl locks.length dl, .slice Bb bars.length db, .slice Bt threads.length dt] := by
    subst hW
    exact (Blk.new _ _ _).moved (by simp)
  have hs1 : W1.heap.size = w.heap.size + 1 + 1 := by subst hW; simp
  clear hW
  have HB : Hid (∀ wr, Below W1.heap.size W1 wr → Below w.heap.size w wr ∧ Blk wr w.heap.size 27 #[.slice Av vars.length cv, .slice Ao vols.length co, .slice Al locks.length cl, .slice Ab bars.length cb, .slice At threads.length ct] ∧ Blk wr (w.heap.size + 1) 27 #[.slice Bv vars.length dv, .slice Bo vols.length do_, .slice Bl locks.length dl, .slice Bb bars.length db, .slice Bt threads.length dt]) := fun wr hb => ⟨hb1.trans (hb.mono (by omega)), bP1.below hb bP1.lt, bQ1.below hb bQ1.lt⟩
  clear bP1 bQ1
  go_loopw [5] (fun i wr => ∃ k : Nat, k ≤ vars.length ∧ i = .int .i64 k ∧ Below W1.heap.size W1 wr) (fun i _ => vars.length - (intOf i).toNat)
  case atStart => exact ⟨0, by omega, rfl, Below.refl _ _⟩
  case round =>
    obtain ⟨k, hk, rfl, hb⟩ := hrel
    obtain ⟨hbw, bP, bQ⟩ := HB.out wr hb
    have hlp := bP.lt
    have hlq := bQ.lt
    have a5 : wr.cell? ⟨w.heap.size, 0, none⟩ = some (.slice Av vars.length cv) := bP.cell 0
    have b5 : wr.cell? ⟨w.heap.size + 1, 0, none⟩ = some (.slice Bv vars.length dv) := bQ.cell 0
    clear bP bQ
    by_cases hlt : k < vars.length
    · obtain ⟨x, hx⟩ := get_some hlt
      obtain ⟨ga, oa, hA, hga, qa, qa'⟩ := (HP.out.vars.below hbw).nam hx
      obtain ⟨gb, ob, hB, hgb, qb, qb'⟩ := (HQ.out.vars.below hbw).nam hx
      clear hx
      dsimp only at hA hB
      rw [hA] at a5
      rw [hB] at b5
      clear hA hB
      have hk0 : (0 : Int) ≤ (k : Int) := by omega
      have hk1 : (k : Int) < (vars.length : Int) := by omega
      go_wp2_with fail
      go_quiet (fail)
      go_wp2_with fail
      go_roundw
      case rel => exact ⟨k + 1, by omega, by go_num, below_drewN hb _⟩
      case measure => simp [intOf]; omega
    · obtain rfl : k = vars.length := by omega
      clear hk hlt
      go_wp2_with fail
      obtain ⟨wo, rfl⟩ : ∃ x : World, x = wr := ⟨_, rfl⟩
      have hbo := hb
      clear a5 b5 hb
      go_loopw [6] (fun i wr => ∃ k : Nat, k ≤ vols.length ∧ i = .int .i64 k ∧ Below W1.heap.size W1 wr) (fun i _ => vols.length - (intOf i).toNat)
      case atStart => exact ⟨0, by omega, rfl, hbo⟩
      case round =>
        obtain ⟨k, hk, rfl, hb⟩ := hrel
        obtain ⟨hbw, bP, bQ⟩ := HB.out wr hb
        have hlp := bP.lt
        have hlq := bQ.lt
        have a5 : wr.cell? ⟨w.heap.size, 1, none⟩ = some (.slice Ao vols.length co) := bP.cell 1
        have b5 : wr.cell? ⟨w.heap.size + 1, 1, none⟩ = some (.slice Bo vols.length do_) := bQ.cell 1
        clear bP bQ
        by_cases hlt : k < vols.length
        · obtain ⟨x, hx⟩ := get_some hlt
          obtain ⟨ga, oa, hA, hga, qa, qa'⟩ := (HP.out.vols.below hbw).nam hx
          obtain ⟨gb, ob, hB, hgb, qb, qb'⟩ := (HQ.out.vols.below hbw).nam hx
          clear hx
          dsimp only at hA hB
          rw [hA] at a5
          rw [hB] at b5
          clear hA hB
          have hk0 : (0 : Int) ≤ (k : Int) := by omega
          have hk1 : (k : Int) < (vols.length : Int) := by omega
          go_wp2_with fail
          go_quiet (fail)
          go_wp2_with fail
          go_roundw
          case rel => exact ⟨k + 1, by omega, by go_num, below_drewN hb _⟩
          case measure => simp [intOf]; omega
        · obtain rfl : k = vols.length := by omega
          clear hk hlt
          go_wp2_with fail
          obtain ⟨wo, rfl⟩ : ∃ x : World, x = wr := ⟨_, rfl⟩
          have hbo := hb
          clear a5 b5 hb
          go_loopw [7] (fun i wr => ∃ k : Nat, k ≤ locks.length ∧ i = .int .i64 k ∧ Below W1.heap.size W1 wr) (fun i _ => locks.length - (intOf i).toNat)
          case atStart => exact ⟨0, by omega, rfl, hbo⟩
          case round =>
            obtain ⟨k, hk, rfl, hb⟩ := hrel
            obtain ⟨hbw, bP, bQ⟩ := HB.out wr hb
            have hlp := bP.lt
            have hlq := bQ.lt
            have a5 : wr.cell? ⟨w.heap.size, 2, none⟩ = some (.slice Al locks.length cl) := bP.cell 2
            have b5 : wr.cell? ⟨w.heap.size + 1, 2, none⟩ = some (.slice Bl locks.length dl) := bQ.cell 2
            clear bP bQ
            by_cases hlt : k < locks.length
            · obtain ⟨x, hx⟩ := get_some hlt
              obtain ⟨ga, oa, hA, hga, qa⟩ := (HP.out.locks.below hbw).str hx
              obtain ⟨gb, ob, hB, hgb, qb⟩ := (HQ.out.locks.below hbw).str hx
              clear hx
              dsimp only at hA hB
              rw [hA] at a5
              rw [hB] at b5
              clear hA hB
              have hk0 : (0 : Int) ≤ (k : Int) := by omega
              have hk1 : (k : Int) < (locks.length : Int) := by omega
              go_wp2_with fail
              go_quiet (fail)
              go_wp2_with fail
              go_roundw
              case rel => exact ⟨k + 1, by omega, by go_num, below_drewN hb _⟩
              case measure => simp [intOf]; omega
            · obtain rfl : k = locks.length := by omega
              clear hk hlt
              go_wp2_with fail
              obtain ⟨wo, rfl⟩ : ∃ x : World, x = wr := ⟨_, rfl⟩
              have hbo := hb
              clear a5 b5 hb
              go_loopw [8] (fun i wr => ∃ k : Nat, k ≤ bars.length ∧ i = .int .i64 k ∧ Below W1.heap.size W1 wr) (fun i _ => bars.length - (intOf i).toNat)
              case atStart => exact ⟨0, by omega, rfl, hbo⟩
              case round =>
                obtain ⟨k, hk, rfl, hb⟩ := hrel
                obtain ⟨hbw, bP, bQ⟩ := HB.out wr hb
                have hlp := bP.lt
                have hlq := bQ.lt
                have a5 : wr.cell? ⟨w.heap.size, 3, none⟩ = some (.slice Ab bars.length cb) := bP.cell 3
                have b5 : wr.cell? ⟨w.heap.size + 1, 3, none⟩ = some (.slice Bb bars.length db) := bQ.cell 3
                clear bP bQ
                by_cases hlt : k < bars.length
                · obtain ⟨x, hx⟩ := get_some hlt
                  obtain ⟨ga, oa, hA, hga, qa, qa'⟩ := (HP.out.bars.below hbw).nam hx
                  obtain ⟨gb, ob, hB, hgb, qb, qb'⟩ := (HQ.out.bars.below hbw).nam hx
                  clear hx
                  dsimp only at hA hB
                  rw [hA] at a5
                  rw [hB] at b5
                  clear hA hB
                  have hk0 : (0 : Int) ≤ (k : Int) := by omega
                  have hk1 : (k : Int) < (bars.length : Int) := by omega
                  go_wp2_with fail
                  go_quiet (fail)
                  go_wp2_with fail
                  go_roundw
                  case rel => exact ⟨k + 1, by omega, by go_num, below_drewN hb _⟩
                  case measure => simp [intOf]; omega
                · obtain rfl : k = bars.length := by omega
                  clear hk hlt
                  go_wp2_with fail
                  obtain ⟨wo, rfl⟩ : ∃ x : World, x = wr := ⟨_, rfl⟩
                  have hbo := hb
                  clear a5 b5 hb
                  go_loopw [9] (fun i wr => ∃ k : Nat, k ≤ threads.length ∧ i = .int .i64 k ∧ Below W1.heap.size W1 wr) (fun i _ => threads.length - (intOf i).toNat)
                  case atStart => exact ⟨0, by omega, rfl, hbo⟩
                  case round =>
                    obtain ⟨k, hk, rfl, hb⟩ := hrel
                    obtain ⟨hbw, bP, bQ⟩ := HB.out wr hb
                    have hlp := bP.lt
                    have hlq := bQ.lt
                    have a5 : wr.cell? ⟨w.heap.size, 4, none⟩ = some (.slice At threads.length ct) := bP.cell 4
                    have b5 : wr.cell? ⟨w.heap.size + 1, 4, none⟩ = some (.slice Bt threads.length dt) := bQ.cell 4
                    clear bP bQ
                    by_cases hlt : k < threads.length
                    · obtain ⟨t, ht⟩ := get_some hlt
                      obtain ⟨u, hu⟩ := get_some (l := threads') (k := k) (by have := HL.out; omega)
                      obtain ⟨ga, oa, hA, hga, r0, r1, r2⟩ := (HP.out.threads.below hbw).thr ht
                      obtain ⟨gb, ob, hB, hgb, s0, s1, s2⟩ := (HQ.out.threads.below hbw).thr hu
                      obtain ⟨e1, e2, e3⟩ := HS.out.at_ ht hu
                      have HT := Lib.hid (HP.out.thr _ (get_mem ht))
                      have HU := Lib.hid (HQ.out.thr _ (get_mem hu))
                      have f1 : t.code.length * 40 ≤ 140737488355328 := (HF.out.fthreads _ (get_mem ht)).code
                      have f2 : t.places.length * 16 ≤ 140737488355328 := (HF.out.fthreads _ (get_mem ht)).places
                      clear ht hu
                      obtain ⟨tn, tA, tc, code, tP, tpc, pl⟩ := t
                      obtain ⟨un, uA, uc, code', uP, upc, pl'⟩ := u
                      dsimp only at hA hB r0 r1 r2 s0 s1 s2 e1 e2 e3 f1 f2
                      subst e1 e2 e3
                      rw [hA] at a5
                      rw [hB] at b5
                      clear hA hB
                      have hwz := hbw.size
                      have hga' : ga < wr.heap.size := by omega
                      have hgb' : gb < wr.heap.size := by omega
                      have hk0 : (0 : Int) ≤ (k : Int) := by omega
                      have hk1 : (k : Int) < (threads.length : Int) := by omega
                      go_wp2_with fail
                      obtain ⟨G, hG⟩ : ∃ n, wr.heap.size = n := ⟨_, rfl⟩
                      generalize hW2 : World.alloc _ _ = W2
                      have hb2 : Below wr.heap.size wr W2 := by subst hW2; go_grown
                      have bT2 : Blk W2 G 42 #[.string tn, .slice tA code.length tc, .slice tP pl.length tpc] := by
                        subst hW2 hG
                        exact (Blk.new wr _ _).alloc _
                      have bU2 : Blk W2 (G + 1) 42 #[.string tn, .slice uA code.length uc, .slice uP pl.length upc] := by
                        subst hW2 hG
                        exact (Blk.new _ _ _).moved (by simp)
                      have hbw2 := hbw.trans (hb2.mono hwz)
                      have hbr2 := hb.trans (hb2.mono hb.size)
                      rw [hG]
                      clear hW2 a5 b5 r0 r1 r2 s0 s1 s2
                      go_loopw [12] (fun i wq => ∃ m : Nat, m ≤ code.length ∧ i = .int .i64 m ∧ Below W2.heap.size W2 wq) (fun i _ => code.length - (intOf i).toNat)
                      case atStart => exact ⟨0, by omega, rfl, Below.refl W2.heap.size W2⟩
                      case round =>
                        obtain ⟨m, hm, rfl, hbq⟩ := hrel
                        have bT := bT2.below hbq bT2.lt
                        have bU := bU2.below hbq bU2.lt
                        have hbwq := hbw2.trans (hbq.mono hbw2.size)
                        have c5 : wr.cell? ⟨G, 1, none⟩ = some (.slice tA code.length tc) := bT.cell 1
                        have d5 : wr.cell? ⟨G + 1, 1, none⟩ = some (.slice uA code.length uc) := bU.cell 1
                        have hlt1 := bT.lt
                        have hlt2 := bU.lt
                        clear bT bU
                        by_cases hml : m < code.length
                        · obtain ⟨x, hx⟩ := get_some hml
                          obtain ⟨gx, ox, hA, hgx, x0, x1, x2, x3, x4⟩ := (HT.out.below hbwq).code.ins hx
                          obtain ⟨gy, oy, hB, hgy, y0, y1, y2, y3, y4⟩ := (HU.out.below hbwq).code.ins hx
                          clear hx
                          dsimp only at hA hB
                          rw [hA] at c5
                          rw [hB] at d5
                          clear hA hB
                          have hm0 : (0 : Int) ≤ (m : Int) := by omega
                          have hm1 : (m : Int) < (code.length : Int) := by omega
                          go_wp2_with fail
                          go_quiet (fail)
                          go_wp2_with fail
                          go_roundw
                          case rel => exact ⟨m + 1, by omega, by go_num, below_drewN hbq _⟩
                          case measure => simp [intOf]; omega
                        · obtain rfl : m = code.length := by omega
                          clear hm hml
                          go_wp2_with fail
                          obtain ⟨wv, rfl⟩ : ∃ x : World, x = wr := ⟨_, rfl⟩
                          have hbq0 := hbq
                          clear c5 d5 hbq
                          go_loopw [13] (fun i wq => ∃ m : Nat, m ≤ pl.length ∧ i = .int .i64 m ∧ Below W2.heap.size W2 wq) (fun i _ => pl.length - (intOf i).toNat)
                          case atStart => exact ⟨0, by omega, rfl, hbq0⟩
                          case round =>
                            obtain ⟨m, hm, rfl, hbq⟩ := hrel
                            have bT := bT2.below hbq bT2.lt
                            have bU := bU2.below hbq bU2.lt
                            have hbwq := hbw2.trans (hbq.mono hbw2.size)
                            have c5 : wr.cell? ⟨G, 2, none⟩ = some (.slice tP pl.length tpc) := bT.cell 2
                            have d5 : wr.cell? ⟨G + 1, 2, none⟩ = some (.slice uP pl.length upc) := bU.cell 2
                            have hlt1 := bT.lt
                            have hlt2 := bU.lt
                            clear bT bU
                            by_cases hml : m < pl.length
                            · obtain ⟨x, hx⟩ := get_some hml
                              obtain ⟨gx, ox, hA, hgx, x0, x1⟩ := (HT.out.below hbwq).places.pla hx
                              obtain ⟨gy, oy, hB, hgy, y0, y1⟩ := (HU.out.below hbwq).places.pla hx
                              clear hx
                              dsimp only at hA hB
                              rw [hA] at c5
                              rw [hB] at d5
                              clear hA hB
                              have hm0 : (0 : Int) ≤ (m : Int) := by omega
                              have hm1 : (m : Int) < (pl.length : Int) := by omega
                              go_wp2_with fail
                              go_quiet (fail)
                              go_wp2_with fail
                              go_roundw
                              case rel => exact ⟨m + 1, by omega, by go_num, below_drewN hbq _⟩
                              case measure => simp [intOf]; omega
                            · obtain rfl : m = pl.length := by omega
                              clear hm hml
                              go_wp2_with fail
                              go_roundw
                              case rel => exact ⟨k + 1, by omega, by go_num, hbr2.trans (hbq.mono hbr2.size)⟩
                              case measure => simp [intOf]; omega
                    · obtain rfl : k = threads.length := by omega
                      clear hk hlt
                      go_wp2_with fail
                      go_ret
                      exact ⟨rfl, hbw⟩
end Go.Proofs.YtknnbckmdfnmaaaDoor
