/- Contract of check.Name. Conditions: the sizes of Prg.Fits; the data lies in memory. (The like cases were printed by a small program.) -/
import Derived.Test.YtknnbckmdfnmaaaDoorNameFn
namespace Go.Proofs.YtknnbckmdfnmaaaDoor
open Go.RowKit

set_option maxHeartbeats 1000000 in
set_option maxRecDepth 100000 in
theorem nameFn_1 (p : Prg) (n : Int) (w : World) (hf : p.Fits) (hin : p.In w w.heap.size) :
    Calls Tryd.prog 19 #[p.val, .int .i64 1, .int .i64 n] w fun e w' => e = .returned (nameV (nameAt (p.names 1) n)) ∧ Below w.heap.size w w' := by
  have HF := Lib.hid hf; clear hf
  have HI := Lib.hid hin; clear hin
  have hl : (p.names 1).length = p.vars.length := by simp [Prg.names]
  have h0 : n < 0 ∨ 0 ≤ n ∧ (p.vars.length : Int) ≤ n ∨ 0 ≤ n ∧ n < (p.vars.length : Int) := by omega
  unfold Prg.val
  rcases h0 with h0 | ⟨h0, h1⟩ | ⟨h0, h1⟩
  · have hfin := Lib.hid (nameAt_neg (l := p.names 1) h0)
    clear hl
    go_enter Tryd.func19, Tryd.ntmps19
    go_wp2_with (go_at_call 23; refine (parts_any p _ HF.out ((HI.out.below ((Below.refl _ _).alloc (Nat.le_refl _) _)).more (by simp))).mono ?_; rintro e w1 ⟨v1, v2, v3, v4, v5, rfl, hb, o1, o2, o3, o4, o5⟩; obtain ⟨A, c, rfl, hc, hR⟩ := RdL.of_own (l := p.names 1) (n := p.vars.length) (enc := encS) (fun _ => rfl) (by simp [Prg.names]) o1; clear o1 o2 o3 o4 o5; have hix : (Instr.index 69 (.agg #[ns, .slice A p.vars.length c, v2, v3, v4, v5]) (.int .i64 1)).run Tryd.prog w1 = .ok (.slice A p.vars.length c) w1 := (by kernel_rfl))
    go_ret2
    exact ⟨ret_name (r := (ByteArray.empty, false)) hfin.out.symm, ((Below.refl _ _).alloc (Nat.le_refl _) _).trans (hb.mono (by simp))⟩
  · have hfin := Lib.hid (nameAt_far (l := p.names 1) (n := n) (by omega))
    clear hl
    go_enter Tryd.func19, Tryd.ntmps19
    go_wp2_with (go_at_call 23; refine (parts_any p _ HF.out ((HI.out.below ((Below.refl _ _).alloc (Nat.le_refl _) _)).more (by simp))).mono ?_; rintro e w1 ⟨v1, v2, v3, v4, v5, rfl, hb, o1, o2, o3, o4, o5⟩; obtain ⟨A, c, rfl, hc, hR⟩ := RdL.of_own (l := p.names 1) (n := p.vars.length) (enc := encS) (fun _ => rfl) (by simp [Prg.names]) o1; clear o1 o2 o3 o4 o5; have hix : (Instr.index 69 (.agg #[ns, .slice A p.vars.length c, v2, v3, v4, v5]) (.int .i64 1)).run Tryd.prog w1 = .ok (.slice A p.vars.length c) w1 := (by kernel_rfl))
    go_ret2
    exact ⟨ret_name (r := (ByteArray.empty, false)) hfin.out.symm, ((Below.refl _ _).alloc (Nat.le_refl _) _).trans (hb.mono (by simp))⟩
  · obtain ⟨s, hs⟩ := get_some (l := p.names 1) (k := n.toNat) (by omega)
    have hfin := Lib.hid (nameAt_in h0 hs)
    have hnn : n = (n.toNat : Int) := by omega
    have HS := Lib.hid hs; clear hs hl
    obtain ⟨k, hk⟩ : ∃ k, n.toNat = k := ⟨_, rfl⟩
    rw [hk] at hnn HS
    clear hk
    subst hnn
    go_enter Tryd.func19, Tryd.ntmps19
    go_wp2_with (go_at_call 23; refine (parts_any p _ HF.out ((HI.out.below ((Below.refl _ _).alloc (Nat.le_refl _) _)).more (by simp))).mono ?_; rintro e w1 ⟨v1, v2, v3, v4, v5, rfl, hb, o1, o2, o3, o4, o5⟩; obtain ⟨A, c, rfl, hc, hR⟩ := RdL.of_own (l := p.names 1) (n := p.vars.length) (enc := encS) (fun _ => rfl) (by simp [Prg.names]) o1; clear o1 o2 o3 o4 o5; have hix : (Instr.index 69 (.agg #[ns, .slice A p.vars.length c, v2, v3, v4, v5]) (.int .i64 1)).run Tryd.prog w1 = .ok (.slice A p.vars.length c) w1 := (by kernel_rfl); obtain ⟨g, off, rfl, hgB, q0⟩ := hR.str HS.out)
    go_ret2
    exact ⟨ret_name (r := (s, true)) hfin.out.symm, ((Below.refl _ _).alloc (Nat.le_refl _) _).trans (hb.mono (by simp))⟩
set_option maxHeartbeats 1000000 in
set_option maxRecDepth 100000 in
theorem nameFn_2 (p : Prg) (n : Int) (w : World) (hf : p.Fits) (hin : p.In w w.heap.size) :
    Calls Tryd.prog 19 #[p.val, .int .i64 2, .int .i64 n] w fun e w' => e = .returned (nameV (nameAt (p.names 2) n)) ∧ Below w.heap.size w w' := by
  have HF := Lib.hid hf; clear hf
  have HI := Lib.hid hin; clear hin
  have hl : (p.names 2).length = p.vols.length := by simp [Prg.names]
  have h0 : n < 0 ∨ 0 ≤ n ∧ (p.vols.length : Int) ≤ n ∨ 0 ≤ n ∧ n < (p.vols.length : Int) := by omega
  unfold Prg.val
  rcases h0 with h0 | ⟨h0, h1⟩ | ⟨h0, h1⟩
  · have hfin := Lib.hid (nameAt_neg (l := p.names 2) h0)
    clear hl
    go_enter Tryd.func19, Tryd.ntmps19
    go_wp2_with (go_at_call 23; refine (parts_any p _ HF.out ((HI.out.below ((Below.refl _ _).alloc (Nat.le_refl _) _)).more (by simp))).mono ?_; rintro e w1 ⟨v1, v2, v3, v4, v5, rfl, hb, o1, o2, o3, o4, o5⟩; obtain ⟨A, c, rfl, hc, hR⟩ := RdL.of_own (l := p.names 2) (n := p.vols.length) (enc := encS) (fun _ => rfl) (by simp [Prg.names]) o2; clear o1 o2 o3 o4 o5; have hix : (Instr.index 69 (.agg #[ns, v1, .slice A p.vols.length c, v3, v4, v5]) (.int .i64 2)).run Tryd.prog w1 = .ok (.slice A p.vols.length c) w1 := (by kernel_rfl))
    go_ret2
    exact ⟨ret_name (r := (ByteArray.empty, false)) hfin.out.symm, ((Below.refl _ _).alloc (Nat.le_refl _) _).trans (hb.mono (by simp))⟩
  · have hfin := Lib.hid (nameAt_far (l := p.names 2) (n := n) (by omega))
    clear hl
    go_enter Tryd.func19, Tryd.ntmps19
    go_wp2_with (go_at_call 23; refine (parts_any p _ HF.out ((HI.out.below ((Below.refl _ _).alloc (Nat.le_refl _) _)).more (by simp))).mono ?_; rintro e w1 ⟨v1, v2, v3, v4, v5, rfl, hb, o1, o2, o3, o4, o5⟩; obtain ⟨A, c, rfl, hc, hR⟩ := RdL.of_own (l := p.names 2) (n := p.vols.length) (enc := encS) (fun _ => rfl) (by simp [Prg.names]) o2; clear o1 o2 o3 o4 o5; have hix : (Instr.index 69 (.agg #[ns, v1, .slice A p.vols.length c, v3, v4, v5]) (.int .i64 2)).run Tryd.prog w1 = .ok (.slice A p.vols.length c) w1 := (by kernel_rfl))
    go_ret2
    exact ⟨ret_name (r := (ByteArray.empty, false)) hfin.out.symm, ((Below.refl _ _).alloc (Nat.le_refl _) _).trans (hb.mono (by simp))⟩
  · obtain ⟨s, hs⟩ := get_some (l := p.names 2) (k := n.toNat) (by omega)
    have hfin := Lib.hid (nameAt_in h0 hs)
    have hnn : n = (n.toNat : Int) := by omega
    have HS := Lib.hid hs; clear hs hl
    obtain ⟨k, hk⟩ : ∃ k, n.toNat = k := ⟨_, rfl⟩
    rw [hk] at hnn HS
    clear hk
    subst hnn
    go_enter Tryd.func19, Tryd.ntmps19
    go_wp2_with (go_at_call 23; refine (parts_any p _ HF.out ((HI.out.below ((Below.refl _ _).alloc (Nat.le_refl _) _)).more (by simp))).mono ?_; rintro e w1 ⟨v1, v2, v3, v4, v5, rfl, hb, o1, o2, o3, o4, o5⟩; obtain ⟨A, c, rfl, hc, hR⟩ := RdL.of_own (l := p.names 2) (n := p.vols.length) (enc := encS) (fun _ => rfl) (by simp [Prg.names]) o2; clear o1 o2 o3 o4 o5; have hix : (Instr.index 69 (.agg #[ns, v1, .slice A p.vols.length c, v3, v4, v5]) (.int .i64 2)).run Tryd.prog w1 = .ok (.slice A p.vols.length c) w1 := (by kernel_rfl); obtain ⟨g, off, rfl, hgB, q0⟩ := hR.str HS.out)
    go_ret2
    exact ⟨ret_name (r := (s, true)) hfin.out.symm, ((Below.refl _ _).alloc (Nat.le_refl _) _).trans (hb.mono (by simp))⟩
set_option maxHeartbeats 1000000 in
set_option maxRecDepth 100000 in
theorem nameFn_3 (p : Prg) (n : Int) (w : World) (hf : p.Fits) (hin : p.In w w.heap.size) :
    Calls Tryd.prog 19 #[p.val, .int .i64 3, .int .i64 n] w fun e w' => e = .returned (nameV (nameAt (p.names 3) n)) ∧ Below w.heap.size w w' := by
  have HF := Lib.hid hf; clear hf
  have HI := Lib.hid hin; clear hin
  have hl : (p.names 3).length = p.locks.length := by simp [Prg.names]
  have h0 : n < 0 ∨ 0 ≤ n ∧ (p.locks.length : Int) ≤ n ∨ 0 ≤ n ∧ n < (p.locks.length : Int) := by omega
  unfold Prg.val
  rcases h0 with h0 | ⟨h0, h1⟩ | ⟨h0, h1⟩
  · have hfin := Lib.hid (nameAt_neg (l := p.names 3) h0)
    clear hl
    go_enter Tryd.func19, Tryd.ntmps19
    go_wp2_with (go_at_call 23; refine (parts_any p _ HF.out ((HI.out.below ((Below.refl _ _).alloc (Nat.le_refl _) _)).more (by simp))).mono ?_; rintro e w1 ⟨v1, v2, v3, v4, v5, rfl, hb, o1, o2, o3, o4, o5⟩; obtain ⟨A, c, rfl, hc, hR⟩ := RdL.of_own (l := p.names 3) (n := p.locks.length) (enc := encS) (fun _ => rfl) (by simp [Prg.names]) o3; clear o1 o2 o3 o4 o5; have hix : (Instr.index 69 (.agg #[ns, v1, v2, .slice A p.locks.length c, v4, v5]) (.int .i64 3)).run Tryd.prog w1 = .ok (.slice A p.locks.length c) w1 := (by kernel_rfl))
    go_ret2
    exact ⟨ret_name (r := (ByteArray.empty, false)) hfin.out.symm, ((Below.refl _ _).alloc (Nat.le_refl _) _).trans (hb.mono (by simp))⟩
  · have hfin := Lib.hid (nameAt_far (l := p.names 3) (n := n) (by omega))
    clear hl
    go_enter Tryd.func19, Tryd.ntmps19
    go_wp2_with (go_at_call 23; refine (parts_any p _ HF.out ((HI.out.below ((Below.refl _ _).alloc (Nat.le_refl _) _)).more (by simp))).mono ?_; rintro e w1 ⟨v1, v2, v3, v4, v5, rfl, hb, o1, o2, o3, o4, o5⟩; obtain ⟨A, c, rfl, hc, hR⟩ := RdL.of_own (l := p.names 3) (n := p.locks.length) (enc := encS) (fun _ => rfl) (by simp [Prg.names]) o3; clear o1 o2 o3 o4 o5; have hix : (Instr.index 69 (.agg #[ns, v1, v2, .slice A p.locks.length c, v4, v5]) (.int .i64 3)).run Tryd.prog w1 = .ok (.slice A p.locks.length c) w1 := (by kernel_rfl))
    go_ret2
    exact ⟨ret_name (r := (ByteArray.empty, false)) hfin.out.symm, ((Below.refl _ _).alloc (Nat.le_refl _) _).trans (hb.mono (by simp))⟩
  · obtain ⟨s, hs⟩ := get_some (l := p.names 3) (k := n.toNat) (by omega)
    have hfin := Lib.hid (nameAt_in h0 hs)
    have hnn : n = (n.toNat : Int) := by omega
    have HS := Lib.hid hs; clear hs hl
    obtain ⟨k, hk⟩ : ∃ k, n.toNat = k := ⟨_, rfl⟩
    rw [hk] at hnn HS
    clear hk
    subst hnn
    go_enter Tryd.func19, Tryd.ntmps19
    go_wp2_with (go_at_call 23; refine (parts_any p _ HF.out ((HI.out.below ((Below.refl _ _).alloc (Nat.le_refl _) _)).more (by simp))).mono ?_; rintro e w1 ⟨v1, v2, v3, v4, v5, rfl, hb, o1, o2, o3, o4, o5⟩; obtain ⟨A, c, rfl, hc, hR⟩ := RdL.of_own (l := p.names 3) (n := p.locks.length) (enc := encS) (fun _ => rfl) (by simp [Prg.names]) o3; clear o1 o2 o3 o4 o5; have hix : (Instr.index 69 (.agg #[ns, v1, v2, .slice A p.locks.length c, v4, v5]) (.int .i64 3)).run Tryd.prog w1 = .ok (.slice A p.locks.length c) w1 := (by kernel_rfl); obtain ⟨g, off, rfl, hgB, q0⟩ := hR.str HS.out)
    go_ret2
    exact ⟨ret_name (r := (s, true)) hfin.out.symm, ((Below.refl _ _).alloc (Nat.le_refl _) _).trans (hb.mono (by simp))⟩
set_option maxHeartbeats 1000000 in
set_option maxRecDepth 100000 in
theorem nameFn_4 (p : Prg) (n : Int) (w : World) (hf : p.Fits) (hin : p.In w w.heap.size) :
    Calls Tryd.prog 19 #[p.val, .int .i64 4, .int .i64 n] w fun e w' => e = .returned (nameV (nameAt (p.names 4) n)) ∧ Below w.heap.size w w' := by
  have HF := Lib.hid hf; clear hf
  have HI := Lib.hid hin; clear hin
  have hl : (p.names 4).length = p.bars.length := by simp [Prg.names]
  have h0 : n < 0 ∨ 0 ≤ n ∧ (p.bars.length : Int) ≤ n ∨ 0 ≤ n ∧ n < (p.bars.length : Int) := by omega
  unfold Prg.val
  rcases h0 with h0 | ⟨h0, h1⟩ | ⟨h0, h1⟩
  · have hfin := Lib.hid (nameAt_neg (l := p.names 4) h0)
    clear hl
    go_enter Tryd.func19, Tryd.ntmps19
    go_wp2_with (go_at_call 23; refine (parts_any p _ HF.out ((HI.out.below ((Below.refl _ _).alloc (Nat.le_refl _) _)).more (by simp))).mono ?_; rintro e w1 ⟨v1, v2, v3, v4, v5, rfl, hb, o1, o2, o3, o4, o5⟩; obtain ⟨A, c, rfl, hc, hR⟩ := RdL.of_own (l := p.names 4) (n := p.bars.length) (enc := encS) (fun _ => rfl) (by simp [Prg.names]) o4; clear o1 o2 o3 o4 o5; have hix : (Instr.index 69 (.agg #[ns, v1, v2, v3, .slice A p.bars.length c, v5]) (.int .i64 4)).run Tryd.prog w1 = .ok (.slice A p.bars.length c) w1 := (by kernel_rfl))
    go_ret2
    exact ⟨ret_name (r := (ByteArray.empty, false)) hfin.out.symm, ((Below.refl _ _).alloc (Nat.le_refl _) _).trans (hb.mono (by simp))⟩
  · have hfin := Lib.hid (nameAt_far (l := p.names 4) (n := n) (by omega))
    clear hl
    go_enter Tryd.func19, Tryd.ntmps19
    go_wp2_with (go_at_call 23; refine (parts_any p _ HF.out ((HI.out.below ((Below.refl _ _).alloc (Nat.le_refl _) _)).more (by simp))).mono ?_; rintro e w1 ⟨v1, v2, v3, v4, v5, rfl, hb, o1, o2, o3, o4, o5⟩; obtain ⟨A, c, rfl, hc, hR⟩ := RdL.of_own (l := p.names 4) (n := p.bars.length) (enc := encS) (fun _ => rfl) (by simp [Prg.names]) o4; clear o1 o2 o3 o4 o5; have hix : (Instr.index 69 (.agg #[ns, v1, v2, v3, .slice A p.bars.length c, v5]) (.int .i64 4)).run Tryd.prog w1 = .ok (.slice A p.bars.length c) w1 := (by kernel_rfl))
    go_ret2
    exact ⟨ret_name (r := (ByteArray.empty, false)) hfin.out.symm, ((Below.refl _ _).alloc (Nat.le_refl _) _).trans (hb.mono (by simp))⟩
  · obtain ⟨s, hs⟩ := get_some (l := p.names 4) (k := n.toNat) (by omega)
    have hfin := Lib.hid (nameAt_in h0 hs)
    have hnn : n = (n.toNat : Int) := by omega
    have HS := Lib.hid hs; clear hs hl
    obtain ⟨k, hk⟩ : ∃ k, n.toNat = k := ⟨_, rfl⟩
    rw [hk] at hnn HS
    clear hk
    subst hnn
    go_enter Tryd.func19, Tryd.ntmps19
    go_wp2_with (go_at_call 23; refine (parts_any p _ HF.out ((HI.out.below ((Below.refl _ _).alloc (Nat.le_refl _) _)).more (by simp))).mono ?_; rintro e w1 ⟨v1, v2, v3, v4, v5, rfl, hb, o1, o2, o3, o4, o5⟩; obtain ⟨A, c, rfl, hc, hR⟩ := RdL.of_own (l := p.names 4) (n := p.bars.length) (enc := encS) (fun _ => rfl) (by simp [Prg.names]) o4; clear o1 o2 o3 o4 o5; have hix : (Instr.index 69 (.agg #[ns, v1, v2, v3, .slice A p.bars.length c, v5]) (.int .i64 4)).run Tryd.prog w1 = .ok (.slice A p.bars.length c) w1 := (by kernel_rfl); obtain ⟨g, off, rfl, hgB, q0⟩ := hR.str HS.out)
    go_ret2
    exact ⟨ret_name (r := (s, true)) hfin.out.symm, ((Below.refl _ _).alloc (Nat.le_refl _) _).trans (hb.mono (by simp))⟩
set_option maxHeartbeats 1000000 in
set_option maxRecDepth 100000 in
theorem nameFn_5 (p : Prg) (n : Int) (w : World) (hf : p.Fits) (hin : p.In w w.heap.size) :
    Calls Tryd.prog 19 #[p.val, .int .i64 5, .int .i64 n] w fun e w' => e = .returned (nameV (nameAt (p.names 5) n)) ∧ Below w.heap.size w w' := by
  have HF := Lib.hid hf; clear hf
  have HI := Lib.hid hin; clear hin
  have hl : (p.names 5).length = p.threads.length := by simp [Prg.names]
  have h0 : n < 0 ∨ 0 ≤ n ∧ (p.threads.length : Int) ≤ n ∨ 0 ≤ n ∧ n < (p.threads.length : Int) := by omega
  unfold Prg.val
  rcases h0 with h0 | ⟨h0, h1⟩ | ⟨h0, h1⟩
  · have hfin := Lib.hid (nameAt_neg (l := p.names 5) h0)
    clear hl
    go_enter Tryd.func19, Tryd.ntmps19
    go_wp2_with (go_at_call 23; refine (parts_any p _ HF.out ((HI.out.below ((Below.refl _ _).alloc (Nat.le_refl _) _)).more (by simp))).mono ?_; rintro e w1 ⟨v1, v2, v3, v4, v5, rfl, hb, o1, o2, o3, o4, o5⟩; obtain ⟨A, c, rfl, hc, hR⟩ := RdL.of_own (l := p.names 5) (n := p.threads.length) (enc := encS) (fun _ => rfl) (by simp [Prg.names]) o5; clear o1 o2 o3 o4 o5; have hix : (Instr.index 69 (.agg #[ns, v1, v2, v3, v4, .slice A p.threads.length c]) (.int .i64 5)).run Tryd.prog w1 = .ok (.slice A p.threads.length c) w1 := (by kernel_rfl))
    go_ret2
    exact ⟨ret_name (r := (ByteArray.empty, false)) hfin.out.symm, ((Below.refl _ _).alloc (Nat.le_refl _) _).trans (hb.mono (by simp))⟩
  · have hfin := Lib.hid (nameAt_far (l := p.names 5) (n := n) (by omega))
    clear hl
    go_enter Tryd.func19, Tryd.ntmps19
    go_wp2_with (go_at_call 23; refine (parts_any p _ HF.out ((HI.out.below ((Below.refl _ _).alloc (Nat.le_refl _) _)).more (by simp))).mono ?_; rintro e w1 ⟨v1, v2, v3, v4, v5, rfl, hb, o1, o2, o3, o4, o5⟩; obtain ⟨A, c, rfl, hc, hR⟩ := RdL.of_own (l := p.names 5) (n := p.threads.length) (enc := encS) (fun _ => rfl) (by simp [Prg.names]) o5; clear o1 o2 o3 o4 o5; have hix : (Instr.index 69 (.agg #[ns, v1, v2, v3, v4, .slice A p.threads.length c]) (.int .i64 5)).run Tryd.prog w1 = .ok (.slice A p.threads.length c) w1 := (by kernel_rfl))
    go_ret2
    exact ⟨ret_name (r := (ByteArray.empty, false)) hfin.out.symm, ((Below.refl _ _).alloc (Nat.le_refl _) _).trans (hb.mono (by simp))⟩
  · obtain ⟨s, hs⟩ := get_some (l := p.names 5) (k := n.toNat) (by omega)
    have hfin := Lib.hid (nameAt_in h0 hs)
    have hnn : n = (n.toNat : Int) := by omega
    have HS := Lib.hid hs; clear hs hl
    obtain ⟨k, hk⟩ : ∃ k, n.toNat = k := ⟨_, rfl⟩
    rw [hk] at hnn HS
    clear hk
    subst hnn
    go_enter Tryd.func19, Tryd.ntmps19
    go_wp2_with (go_at_call 23; refine (parts_any p _ HF.out ((HI.out.below ((Below.refl _ _).alloc (Nat.le_refl _) _)).more (by simp))).mono ?_; rintro e w1 ⟨v1, v2, v3, v4, v5, rfl, hb, o1, o2, o3, o4, o5⟩; obtain ⟨A, c, rfl, hc, hR⟩ := RdL.of_own (l := p.names 5) (n := p.threads.length) (enc := encS) (fun _ => rfl) (by simp [Prg.names]) o5; clear o1 o2 o3 o4 o5; have hix : (Instr.index 69 (.agg #[ns, v1, v2, v3, v4, .slice A p.threads.length c]) (.int .i64 5)).run Tryd.prog w1 = .ok (.slice A p.threads.length c) w1 := (by kernel_rfl); obtain ⟨g, off, rfl, hgB, q0⟩ := hR.str HS.out)
    go_ret2
    exact ⟨ret_name (r := (s, true)) hfin.out.symm, ((Below.refl _ _).alloc (Nat.le_refl _) _).trans (hb.mono (by simp))⟩
set_option maxHeartbeats 1000000 in
theorem nameFn_0 (p : Prg) (part n : Int) (w : World) (h : part < 1 ∨ 5 < part) :
    Calls Tryd.prog 19 #[p.val, .int .i64 part, .int .i64 n] w fun e w' => e = .returned (nameV (nameAt (p.names part.toNat) n)) ∧ Below w.heap.size w w' := by
  have hfin : Hid (nameAt (p.names part.toNat) n = (ByteArray.empty, false)) := by
    show _ = _
    rw [names_out h]
    by_cases h0 : n < 0
    · exact nameAt_neg h0
    · exact nameAt_far (by simp; omega)
  have h1 : part < 1 ∨ 1 ≤ part ∧ 5 < part := by omega
  clear h
  unfold Prg.val
  rcases h1 with h1 | ⟨h1, h2⟩
  all_goals
    go_enter Tryd.func19, Tryd.ntmps19
    go_wp2_with fail
    go_ret2
    exact ⟨ret_name (r := (ByteArray.empty, false)) hfin.out.symm, (Below.refl _ _).alloc (Nat.le_refl _) _⟩
/-- check.Name -/
theorem nameFn_any (p : Prg) (part n : Int) (w : World) (hf : p.Fits) (hin : p.In w w.heap.size) :
    Calls Tryd.prog 19 #[p.val, .int .i64 part, .int .i64 n] w fun e w' => e = .returned (nameV (nameAt (p.names part.toNat) n)) ∧ Below w.heap.size w w' := by
  by_cases h : part < 1 ∨ 5 < part
  · exact nameFn_0 p part n w h
  · have h5 : part = 1 ∨ part = 2 ∨ part = 3 ∨ part = 4 ∨ part = 5 := by omega
    rcases h5 with rfl | rfl | rfl | rfl | rfl
    · exact nameFn_1 p n w hf hin
    · exact nameFn_2 p n w hf hin
    · exact nameFn_3 p n w hf hin
    · exact nameFn_4 p n w hf hin
    · exact nameFn_5 p n w hf hin
end Go.Proofs.YtknnbckmdfnmaaaDoor
