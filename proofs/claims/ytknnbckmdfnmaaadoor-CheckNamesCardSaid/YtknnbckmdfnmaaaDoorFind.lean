/- Contract of abreastref11.Find. Conditions: the sizes of Prg.Fits; the data lies in memory. -/
import Derived.Test.YtknnbckmdfnmaaaDoorFindD
namespace Go.Proofs.YtknnbckmdfnmaaaDoor
open Go.RowKit

set_option maxHeartbeats 1000000 in
set_option maxRecDepth 100000 in
theorem refFind_any (p : Prg) (s : ByteArray) (w : World) (hf : p.Fits) (hin : p.In w w.heap.size) :
    Calls Tryd.prog 33 #[p.val, .string s] w fun e w' => e = .returned (findV (findP p.names s 5 1)) ∧ Below w.heap.size w w' := by
  have HF := Lib.hid hf; clear hf
  have HI := Lib.hid hin; clear hin
  unfold Prg.val
  go_enter Tryd.func33, Tryd.ntmps33
  go_wp2_with fail
  generalize hW : World.alloc _ _ = W0
  have hb0 : Below w.heap.size w W0 := by subst hW; go_grown
  have hs0 : w.heap.size + 1 ≤ W0.heap.size := by subst hW; simp
  have c0 : W0.cell? ⟨w.heap.size, 0, none⟩ = some (.slice p.Av p.vars.length p.cv) := by subst hW; simp [go_sem]
  have c1 : W0.cell? ⟨w.heap.size, 1, none⟩ = some (.slice p.Ao p.vols.length p.co) := by subst hW; simp [go_sem]
  have c2 : W0.cell? ⟨w.heap.size, 2, none⟩ = some (.slice p.Al p.locks.length p.cl) := by subst hW; simp [go_sem]
  have c3 : W0.cell? ⟨w.heap.size, 3, none⟩ = some (.slice p.Ab p.bars.length p.cb) := by subst hW; simp [go_sem]
  have c4 : W0.cell? ⟨w.heap.size, 4, none⟩ = some (.slice p.At p.threads.length p.ct) := by subst hW; simp [go_sem]
  clear hW
  have hsz : w.heap.size < W0.heap.size := by omega
  have keep : ∀ {wr : World} {j : Nat} {v : Value}, Below W0.heap.size W0 wr → W0.cell? ⟨w.heap.size, j, none⟩ = some v → wr.cell? ⟨w.heap.size, j, none⟩ = some v := fun h hc => (h.cell (p := ⟨w.heap.size, _, none⟩) hsz).trans hc
  go_loopw [7] (fun i wr => ∃ k : Nat, 1 ≤ k ∧ k ≤ 6 ∧ i = .int .i64 k ∧ findP p.names s 5 1 = findP p.names s (5 - (k - 1)) k ∧ Below W0.heap.size W0 wr) (fun i _ => 6 - (intOf i).toNat)
  case atStart => exact ⟨1, by omega, by omega, rfl, rfl, Below.refl _ _⟩
  case round =>
    obtain ⟨k, hk1, hk6, rfl, hfp, hb⟩ := hrel
    have HFP := Lib.hid hfp; clear hfp
    have hwr := hb.size
    have hbw : Below w.heap.size w wr := hb0.trans (hb.mono (by omega))
    obtain ⟨wo, rfl⟩ : ∃ x : World, x = wr := ⟨_, rfl⟩
    by_cases hlt : k ≤ 5
    · have d0 := keep hb c0
      have d1 := keep hb c1
      have d2 := keep hb c2
      have d3 := keep hb c3
      have d4 := keep hb c4
      go_wp2_with (go_at_call 28; refine (names_any p (k : Int) _ HF.out ((HI.out.below hbw).more (by omega))).mono ?_; rintro e w1 ⟨v, rfl, hb1, hown⟩; rw [Int.toNat_natCast] at hown; obtain ⟨A, c, rfl, hc, hR⟩ := RdL.of_own (l := p.names k) (n := (p.names k).length) (enc := encS) (fun _ => rfl) rfl hown; clear hown)
      have hw1 := hb1.size
      have HL : (p.names k).length * 16 ≤ 140737488355328 := by
        have h5 : k = 1 ∨ k = 2 ∨ k = 3 ∨ k = 4 ∨ k = 5 := by omega
        have f := HF.out
        have f1 := f.vars
        have f2 := f.vols
        have f3 := f.locks
        have f4 := f.bars
        have f5 := f.threads
        rcases h5 with rfl | rfl | rfl | rfl | rfl
        all_goals simp only [Prg.names, List.length_map]
        all_goals omega
      have HR := Lib.hid hR; clear hR
      go_loopw [9] (fun i wr => ∃ j : Nat, j ≤ (p.names k).length ∧ i = .int .i64 j ∧ findL s (p.names k) 0 = findL s ((p.names k).drop j) j ∧ wr = w1) (fun i _ => (p.names k).length - (intOf i).toNat)
      case atStart => exact ⟨0, by omega, rfl, rfl, rfl⟩
      case round =>
        obtain ⟨j, hj, rfl, hfl, rfl⟩ := hrel
        have HFL := Lib.hid hfl; clear hfl
        by_cases hjl : j < (p.names k).length
        · obtain ⟨x, hx⟩ := get_some hjl
          obtain ⟨g, off, rfl, hgB, q0⟩ := HR.out.str hx
          have hstep := findL_at hx HFL.out
          have HX := Lib.hid hx; clear hx
          cases hxs : (x.toList == s.toList) with
          | true =>
            rw [hxs, if_pos rfl] at hstep
            have hfin := Lib.hid (findP_hit (a := 1) HFP.out (by omega) hstep)
            clear hstep
            go_wp2_with fail
            go_returns
            exact ⟨ret_find (r := some (k, j)) hfin.out.symm, hbw.trans (hb1.mono (by omega))⟩
          | false =>
            rw [hxs, if_neg (by decide)] at hstep
            have HST := Lib.hid hstep; clear hstep
            go_wp2_with fail
            go_roundw
            case rel => exact ⟨j + 1, by omega, by go_num, HST.out, by trivial⟩
            case measure => simp [intOf]; omega
        · obtain rfl : j = (p.names k).length := by omega
          have hno : findL s (p.names k) 0 = none := by rw [HFL.out, List.drop_of_length_le (Nat.le_refl _)]; rfl
          have hend := Lib.hid (findP_miss (a := 1) HFP.out hk1 (by omega) hno)
          clear hno
          go_wp2_with fail
          go_roundw
          case rel => exact ⟨k + 1, by omega, by omega, by go_num, hend.out, hb.trans (hb1.mono hwr)⟩
          case measure => simp [intOf]; omega
    · obtain rfl : k = 6 := by omega
      have hfin : Hid (findP p.names s 5 1 = none) := HFP.out
      go_wp2_with fail
      go_returns
      exact ⟨ret_find (r := none) hfin.out.symm, hbw⟩
def fiveN (n1 n2 n3 n4 n5 : Nat) : Nat → Nat := fiveC n1 n2 n3 n4 n5
theorem six_ix (k : Nat) (hk : k < 6) (A1 A2 A3 A4 A5 : Option Addr) (n1 n2 n3 n4 n5 c1 c2 c3 c4 c5 : Nat) (w : World) : (Instr.index 69 (.agg #[ns, .slice A1 n1 c1, .slice A2 n2 c2, .slice A3 n3 c3, .slice A4 n4 c4, .slice A5 n5 c5]) (.int .i64 (k : Int))).run Tryd.prog w = .ok (.slice (five A1 A2 A3 A4 A5 k) (fiveC n1 n2 n3 n4 n5 k) (fiveC c1 c2 c3 c4 c5 k)) w := by
  have h6 : k = 0 ∨ k = 1 ∨ k = 2 ∨ k = 3 ∨ k = 4 ∨ k = 5 := by omega
  rcases h6 with rfl | rfl | rfl | rfl | rfl | rfl
  · show (Instr.index 69 (.agg #[ns, .slice A1 n1 c1, .slice A2 n2 c2, .slice A3 n3 c3, .slice A4 n4 c4, .slice A5 n5 c5]) (.int .i64 0)).run Tryd.prog w = .ok (.slice none 0 0) w
    kernel_rfl
  · show (Instr.index 69 (.agg #[ns, .slice A1 n1 c1, .slice A2 n2 c2, .slice A3 n3 c3, .slice A4 n4 c4, .slice A5 n5 c5]) (.int .i64 1)).run Tryd.prog w = .ok (.slice A1 n1 c1) w
    kernel_rfl
  · show (Instr.index 69 (.agg #[ns, .slice A1 n1 c1, .slice A2 n2 c2, .slice A3 n3 c3, .slice A4 n4 c4, .slice A5 n5 c5]) (.int .i64 2)).run Tryd.prog w = .ok (.slice A2 n2 c2) w
    kernel_rfl
  · show (Instr.index 69 (.agg #[ns, .slice A1 n1 c1, .slice A2 n2 c2, .slice A3 n3 c3, .slice A4 n4 c4, .slice A5 n5 c5]) (.int .i64 3)).run Tryd.prog w = .ok (.slice A3 n3 c3) w
    kernel_rfl
  · show (Instr.index 69 (.agg #[ns, .slice A1 n1 c1, .slice A2 n2 c2, .slice A3 n3 c3, .slice A4 n4 c4, .slice A5 n5 c5]) (.int .i64 4)).run Tryd.prog w = .ok (.slice A4 n4 c4) w
    kernel_rfl
  · show (Instr.index 69 (.agg #[ns, .slice A1 n1 c1, .slice A2 n2 c2, .slice A3 n3 c3, .slice A4 n4 c4, .slice A5 n5 c5]) (.int .i64 5)).run Tryd.prog w = .ok (.slice A5 n5 c5) w
    kernel_rfl
set_option maxHeartbeats 1000000 in
set_option maxRecDepth 100000 in
theorem find_any (p : Prg) (s : ByteArray) (w : World) (hf : p.Fits) (hin : p.In w w.heap.size) :
    Calls Tryd.prog 22 #[p.val, .string s] w fun e w' => e = .returned (findV (findP p.names s 5 1)) ∧ Below w.heap.size w w' := by
  have HF := Lib.hid hf; clear hf
  have HI := Lib.hid hin; clear hin
  unfold Prg.val
  go_enter Tryd.func22, Tryd.ntmps22
  go_wp2_with (go_at_call 23; refine (parts_any p _ HF.out ((HI.out.below ((Below.refl _ _).alloc (Nat.le_refl _) _)).more (by simp))).mono ?_; rintro e w1 ⟨v1, v2, v3, v4, v5, rfl, hb, o1, o2, o3, o4, o5⟩)
  obtain ⟨A1, c1, rfl, _, R1⟩ := RdL.of_own (l := p.names 1) (n := p.vars.length) (enc := encS) (fun _ => rfl) (by simp [Prg.names]) o1
  obtain ⟨A2, c2, rfl, _, R2⟩ := RdL.of_own (l := p.names 2) (n := p.vols.length) (enc := encS) (fun _ => rfl) (by simp [Prg.names]) o2
  obtain ⟨A3, c3, rfl, _, R3⟩ := RdL.of_own (l := p.names 3) (n := p.locks.length) (enc := encS) (fun _ => rfl) (by simp [Prg.names]) o3
  obtain ⟨A4, c4, rfl, _, R4⟩ := RdL.of_own (l := p.names 4) (n := p.bars.length) (enc := encS) (fun _ => rfl) (by simp [Prg.names]) o4
  obtain ⟨A5, c5, rfl, _, R5⟩ := RdL.of_own (l := p.names 5) (n := p.threads.length) (enc := encS) (fun _ => rfl) (by simp [Prg.names]) o5
  clear o1 o2 o3 o4 o5
  have hbw : Below w.heap.size w w1 := ((Below.refl _ _).alloc (Nat.le_refl _) _).trans (hb.mono (by simp))
  have hix : Hid (∀ k : Nat, k < 6 → (Instr.index 69 (.agg #[ns, .slice A1 p.vars.length c1, .slice A2 p.vols.length c2, .slice A3 p.locks.length c3, .slice A4 p.bars.length c4, .slice A5 p.threads.length c5]) (.int .i64 (k : Int))).run Tryd.prog w1 = .ok (.slice (five A1 A2 A3 A4 A5 k) (p.names k).length (fiveC c1 c2 c3 c4 c5 k)) w1 ∧ RdL encS 1 w1 w1.heap.size (five A1 A2 A3 A4 A5 k) (p.names k) ∧ (p.names k).length * 16 ≤ 140737488355328) := by
    intro k hk
    have f := HF.out
    have f1 := f.vars
    have f2 := f.vols
    have f3 := f.locks
    have f4 := f.bars
    have f5 := f.threads
    have h6 : k = 0 ∨ k = 1 ∨ k = 2 ∨ k = 3 ∨ k = 4 ∨ k = 5 := by omega
    rcases h6 with rfl | rfl | rfl | rfl | rfl | rfl
    · exact ⟨six_ix 0 (by omega) .., fun h => absurd rfl h, by simp [Prg.names]⟩
    · exact ⟨by simpa [Prg.names, fiveC, five] using six_ix 1 (by omega) A1 A2 A3 A4 A5 p.vars.length p.vols.length p.locks.length p.bars.length p.threads.length c1 c2 c3 c4 c5 w1, R1, by simp [Prg.names]; omega⟩
    · exact ⟨by simpa [Prg.names, fiveC, five] using six_ix 2 (by omega) A1 A2 A3 A4 A5 p.vars.length p.vols.length p.locks.length p.bars.length p.threads.length c1 c2 c3 c4 c5 w1, R2, by simp [Prg.names]; omega⟩
    · exact ⟨by simpa [Prg.names, fiveC, five] using six_ix 3 (by omega) A1 A2 A3 A4 A5 p.vars.length p.vols.length p.locks.length p.bars.length p.threads.length c1 c2 c3 c4 c5 w1, R3, by simp [Prg.names]; omega⟩
    · exact ⟨by simpa [Prg.names, fiveC, five] using six_ix 4 (by omega) A1 A2 A3 A4 A5 p.vars.length p.vols.length p.locks.length p.bars.length p.threads.length c1 c2 c3 c4 c5 w1, R4, by simp [Prg.names]; omega⟩
    · exact ⟨by simpa [Prg.names, fiveC, five] using six_ix 5 (by omega) A1 A2 A3 A4 A5 p.vars.length p.vols.length p.locks.length p.bars.length p.threads.length c1 c2 c3 c4 c5 w1, R5, by simp [Prg.names]; omega⟩
  clear R1 R2 R3 R4 R5 hb
  go_loopw [13] (fun i wr => ∃ k : Nat, k ≤ 6 ∧ i = .int .i64 k ∧ findP p.names s 6 0 = findP p.names s (6 - k) k ∧ wr = w1) (fun i _ => 6 - (intOf i).toNat)
  case atStart => exact ⟨0, by omega, rfl, rfl, rfl⟩
  case round =>
    obtain ⟨k, hk6, rfl, hfp, rfl⟩ := hrel
    have HFP := Lib.hid hfp; clear hfp
    by_cases hlt : k < 6
    · obtain ⟨hx1, hx2, HL⟩ := hix.out k hlt
      have HR := Lib.hid hx2; clear hx2
      go_wp2_with fail
      go_loopw [19] (fun i wq => ∃ j : Nat, j ≤ (p.names k).length ∧ i = .int .i64 j ∧ findL s (p.names k) 0 = findL s ((p.names k).drop j) j ∧ wq = wr) (fun i _ => (p.names k).length - (intOf i).toNat)
      case atStart => exact ⟨0, by omega, rfl, rfl, rfl⟩
      case round =>
        obtain ⟨j, hj, rfl, hfl, rfl⟩ := hrel
        have HFL := Lib.hid hfl; clear hfl
        by_cases hjl : j < (p.names k).length
        · obtain ⟨x, hx⟩ := get_some hjl
          obtain ⟨g, off, hA, hgB, q0⟩ := HR.out.str hx
          rw [hA]
          clear hA
          have hstep := findL_at hx HFL.out
          have HX := Lib.hid hx; clear hx hx1
          cases hxs : (x.toList == s.toList) with
          | true =>
            rw [hxs, if_pos rfl] at hstep
            have hfin := Lib.hid ((find_zero p s).symm.trans (findP_hit (a := 0) HFP.out (by omega) hstep))
            clear hstep
            go_wp2_with fail
            go_returns
            exact ⟨ret_find (r := some (k, j)) hfin.out.symm, hbw⟩
          | false =>
            rw [hxs, if_neg (by decide)] at hstep
            have HST := Lib.hid hstep; clear hstep
            go_wp2_with fail
            go_roundw
            case rel => exact ⟨j + 1, by omega, by go_num, HST.out, by trivial⟩
            case measure => simp [intOf]; omega
        · obtain rfl : j = (p.names k).length := by omega
          have hno : findL s (p.names k) 0 = none := by rw [HFL.out, List.drop_of_length_le (Nat.le_refl _)]; rfl
          have hend := Lib.hid (findP_miss (a := 0) HFP.out (Nat.zero_le _) (by omega) hno)
          clear hno
          go_wp2_with fail
          go_roundw
          case rel => exact ⟨k + 1, by omega, by go_num, hend.out, by trivial⟩
          case measure => simp [intOf]; omega
    · obtain rfl : k = 6 := by omega
      have hfin : Hid (findP p.names s 5 1 = none) := HFP.out
      go_wp2_with fail
      go_returns
      exact ⟨ret_find (r := none) hfin.out.symm, hbw⟩
end Go.Proofs.YtknnbckmdfnmaaaDoor
