/- Contract of abreastlaw11.CheckNames: true. Conditions: those of check_any. -/
import Derived.Test.YtknnbckmdfnmaaaDoorNamesLaw
namespace Go.Proofs.YtknnbckmdfnmaaaDoor
open Go.RowKit

theorem names_law {p : Prg} {part n pa nu at_ : Int} {nm : ByteArray} (h : p.check = ⟨0, pa, nu, at_⟩) (hn : nameAt (p.names part.toNat) n = (nm, true)) : ∃ pn i : Nat, findP p.names nm 5 1 = some (pn, i) ∧ part = (pn : Int) ∧ n = (i : Int) := by
  have hscan : scanP p.names 6 0 [] = none := by
    cases hs : scanP p.names 6 0 [] with
    | none => rfl
    | some r =>
      obtain ⟨e, a, i⟩ := r
      by_cases h0 : p.part0 = 0
      · rw [check_scan h0 hs] at h
        have := (Spot.mk.inj h).1
        rcases scanP_err hs with h1 | h1 <;> omega
      · rw [check_cnt h0] at h
        exact absurd (Spot.mk.inj h).1 (by decide)
  unfold nameAt at hn
  split at hn
  · cases (Prod.mk.inj hn).2
  split at hn
  · next s hs =>
    obtain rfl : s = nm := (Prod.mk.inj hn).1
    have hp : 1 ≤ part ∧ part ≤ 5 := by
      by_cases hh : part < 1 ∨ 5 < part
      · rw [names_out hh] at hs; cases hs
      · omega
    exact ⟨part.toNat, n.toNat, (findP_law hscan part.toNat n.toNat (by omega) (by omega) hs).1, by omega, by omega⟩
  · cases (Prod.mk.inj hn).2
set_option maxHeartbeats 2000000 in
set_option maxRecDepth 100000 in
theorem checkNames_any (p : Prg) (part n : Int) (s : ByteArray) (w : World) (hf : p.Fits) (hin : p.In w w.heap.size) (hop : p.Ops) (gv : GV w.heap.size w) :
    Calls Tryd.prog 6 #[p.val, .int .i64 part, .int .i64 n, .string s] w fun e w' => e = .returned (.bool true) ∧ Below w.heap.size w w' := by
  have HF := Lib.hid hf; clear hf
  have HI := Lib.hid hin; clear hin
  have HO := Lib.hid hop; clear hop
  have HG := Lib.hid gv; clear gv
  obtain ⟨nm, ok, hr⟩ : ∃ nm ok, nameAt (p.names part.toNat) n = (nm, ok) := ⟨_, _, rfl⟩
  have HR := Lib.hid hr; clear hr
  obtain ⟨er, pa, nu, at_, hck⟩ : ∃ er pa nu at_, p.check = ⟨er, pa, nu, at_⟩ := ⟨_, _, _, _, rfl⟩
  have HCK := Lib.hid hck; clear hck
  unfold Prg.val
  go_enter Tryd.func6, Tryd.ntmps6
  go_wp2_with fail
  generalize hW : World.alloc _ _ = W1
  have hb1 : Below w.heap.size w W1 := by subst hW; go_grown
  have hs1 : w.heap.size + 1 ≤ W1.heap.size := by subst hW; simp
  have hbox : Blk W1 w.heap.size 27 #[.slice p.Av p.vars.length p.cv, .slice p.Ao p.vols.length p.co, .slice p.Al p.locks.length p.cl, .slice p.Ab p.bars.length p.cb, .slice p.At p.threads.length p.ct] := by
    subst hW
    exact Blk.new w _ _
  clear hW
  have hkeep : ∀ W, Below W1.heap.size W1 W → p.In W W.heap.size ∧ GV W.heap.size W ∧ Below w.heap.size w W ∧ Blk W w.heap.size 27 #[.slice p.Av p.vars.length p.cv, .slice p.Ao p.vols.length p.co, .slice p.Al p.locks.length p.cl, .slice p.Ab p.bars.length p.cb, .slice p.At p.threads.length p.ct] := fun W hb =>
    have hbw := hb1.trans (hb.mono (by omega))
    ⟨(HI.out.below hbw).more hbw.size, (HG.out.below hbw).more hbw.size, hbw, hbox.below hb hbox.lt⟩
  have HK := Lib.hid hkeep; clear hkeep
  clear hbox hb1 hs1
  have k1 := HK.out W1 (Below.refl _ _)
  refine (nameFn_any p part n W1 HF.out k1.1).mono ?_
  rintro e w2 ⟨rfl, g2⟩
  rw [HR.out]
  unfold nameV
  have k2 := HK.out w2 g2
  have d0 : w2.cell? ⟨w.heap.size, 0, none⟩ = some (.slice p.Av p.vars.length p.cv) := k2.2.2.2.cell 0
  have d1 : w2.cell? ⟨w.heap.size, 1, none⟩ = some (.slice p.Ao p.vols.length p.co) := k2.2.2.2.cell 1
  have d2 : w2.cell? ⟨w.heap.size, 2, none⟩ = some (.slice p.Al p.locks.length p.cl) := k2.2.2.2.cell 2
  have d3 : w2.cell? ⟨w.heap.size, 3, none⟩ = some (.slice p.Ab p.bars.length p.cb) := k2.2.2.2.cell 3
  have d4 : w2.cell? ⟨w.heap.size, 4, none⟩ = some (.slice p.At p.threads.length p.ct) := k2.2.2.2.cell 4
  go_wp2_with fail
  refine (refNameFn_any p part n w2 HF.out k2.1).mono ?_
  rintro e w3 ⟨rfl, g3'⟩
  have g3 := g2.trans (g3'.mono g2.size)
  clear d0 d1 d2 d3 d4
  rw [HR.out]
  unfold nameV
  have k3 := HK.out w3 g3
  have d0 : w3.cell? ⟨w.heap.size, 0, none⟩ = some (.slice p.Av p.vars.length p.cv) := k3.2.2.2.cell 0
  have d1 : w3.cell? ⟨w.heap.size, 1, none⟩ = some (.slice p.Ao p.vols.length p.co) := k3.2.2.2.cell 1
  have d2 : w3.cell? ⟨w.heap.size, 2, none⟩ = some (.slice p.Al p.locks.length p.cl) := k3.2.2.2.cell 2
  have d3 : w3.cell? ⟨w.heap.size, 3, none⟩ = some (.slice p.Ab p.bars.length p.cb) := k3.2.2.2.cell 3
  have d4 : w3.cell? ⟨w.heap.size, 4, none⟩ = some (.slice p.At p.threads.length p.ct) := k3.2.2.2.cell 4
  go_wp2_with fail
  refine (found_any p s w3 HF.out k3.1).mono ?_
  rintro e w4 ⟨rfl, g4'⟩
  have g4 := g3.trans (g4'.mono g3.size)
  clear d0 d1 d2 d3 d4
  have k4 := HK.out w4 g4
  have d0 : w4.cell? ⟨w.heap.size, 0, none⟩ = some (.slice p.Av p.vars.length p.cv) := k4.2.2.2.cell 0
  have d1 : w4.cell? ⟨w.heap.size, 1, none⟩ = some (.slice p.Ao p.vols.length p.co) := k4.2.2.2.cell 1
  have d2 : w4.cell? ⟨w.heap.size, 2, none⟩ = some (.slice p.Al p.locks.length p.cl) := k4.2.2.2.cell 2
  have d3 : w4.cell? ⟨w.heap.size, 3, none⟩ = some (.slice p.Ab p.bars.length p.cb) := k4.2.2.2.cell 3
  have d4 : w4.cell? ⟨w.heap.size, 4, none⟩ = some (.slice p.At p.threads.length p.ct) := k4.2.2.2.cell 4
  have hlx : w.heap.size < w4.heap.size := k4.2.2.2.lt
  go_wp2_with fail
  refine (found_any p nm w4 HF.out k4.1).mono ?_
  rintro e w5 ⟨rfl, g5'⟩
  have g5 := g4.trans (g5'.mono g4.size)
  clear d0 d1 d2 d3 d4 hlx
  have k5 := HK.out w5 g5
  have d0 : w5.cell? ⟨w.heap.size, 0, none⟩ = some (.slice p.Av p.vars.length p.cv) := k5.2.2.2.cell 0
  have d1 : w5.cell? ⟨w.heap.size, 1, none⟩ = some (.slice p.Ao p.vols.length p.co) := k5.2.2.2.cell 1
  have d2 : w5.cell? ⟨w.heap.size, 2, none⟩ = some (.slice p.Al p.locks.length p.cl) := k5.2.2.2.cell 2
  have d3 : w5.cell? ⟨w.heap.size, 3, none⟩ = some (.slice p.Ab p.bars.length p.cb) := k5.2.2.2.cell 3
  have d4 : w5.cell? ⟨w.heap.size, 4, none⟩ = some (.slice p.At p.threads.length p.ct) := k5.2.2.2.cell 4
  have hlx : w.heap.size < w5.heap.size := k5.2.2.2.lt
  go_wp2_with fail
  refine (check_any p w5 HF.out k5.1 HO.out k5.2.1).mono ?_
  rintro e w6 ⟨rfl, g6'⟩
  rw [HCK.out]
  unfold Spot.val spotV
  have g6 := g5.trans (g6'.mono g5.size)
  clear d0 d1 d2 d3 d4 hlx
  have k6 := HK.out w6 g6
  have d0 : w6.cell? ⟨w.heap.size, 0, none⟩ = some (.slice p.Av p.vars.length p.cv) := k6.2.2.2.cell 0
  have d1 : w6.cell? ⟨w.heap.size, 1, none⟩ = some (.slice p.Ao p.vols.length p.co) := k6.2.2.2.cell 1
  have d2 : w6.cell? ⟨w.heap.size, 2, none⟩ = some (.slice p.Al p.locks.length p.cl) := k6.2.2.2.cell 2
  have d3 : w6.cell? ⟨w.heap.size, 3, none⟩ = some (.slice p.Ab p.bars.length p.cb) := k6.2.2.2.cell 3
  have d4 : w6.cell? ⟨w.heap.size, 4, none⟩ = some (.slice p.At p.threads.length p.ct) := k6.2.2.2.cell 4
  have hlx : w.heap.size < w6.heap.size := k6.2.2.2.lt
  by_cases hgood : er = 0 ∧ ok = true
  · obtain ⟨rfl, rfl⟩ := hgood
    obtain ⟨pn, i, hfp, rfl, rfl⟩ : ∃ pn i : Nat, findP p.names nm 5 1 = some (pn, i) ∧ part = (pn : Int) ∧ n = (i : Int) := names_law HCK.out HR.out
    have HFP := Lib.hid hfp; clear hfp
    go_wp2_with fail
    have g7 := g6.alloc g6.size (.cells #[.int .i64 pa, .int .i64 nu, .int .i64 at_] 32)
    have k7 := HK.out _ g7
    refine (find_any p nm _ HF.out k7.1).mono ?_
    rintro e w8 ⟨rfl, g8'⟩
    have g8 := g7.trans (g8'.mono g7.size)
    rw [HFP.out]
    unfold findV
    have k8 := HK.out w8 g8
    go_wp2_with fail
    refine (lives_any _ k8.2.1).mono ?_
    rintro e w9 ⟨rfl, g9⟩
    go_wp2_with fail
    go_ret
    exact ⟨rfl, k8.2.2.1.trans (g9.mono k8.2.2.1.size)⟩
  · have hn : (er == 0) = false ∨ ((er == 0) = true ∧ ok = false) := by
      rcases Decidable.em (er = 0) with h | h
      · exact .inr ⟨by simp [h], by cases ok <;> simp_all⟩
      · exact .inl (by simp [h])
    clear hgood
    rcases hn with hn | ⟨hn, rfl⟩
    all_goals
      go_wp2_with fail
      have k7 := HK.out _ (g6.alloc g6.size (.cells #[.int .i64 pa, .int .i64 nu, .int .i64 at_] 32))
      refine (lives_any _ k7.2.1).mono ?_
      rintro e w8 ⟨rfl, g8⟩
      go_wp2_with fail
      go_ret
      exact ⟨rfl, k7.2.2.1.trans (g8.mono k7.2.2.1.size)⟩
end Go.Proofs.YtknnbckmdfnmaaaDoor
