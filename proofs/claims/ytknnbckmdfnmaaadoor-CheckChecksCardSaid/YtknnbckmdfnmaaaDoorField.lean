/- Contract of check.field: whether an instruction's fields may be. Conditions: the six lists lie behind the pointer; the operation is one of the twenty. -/
import Derived.Test.YtknnbckmdfnmaaaDoorField2
namespace Go.Proofs.YtknnbckmdfnmaaaDoor
open Go.RowKit

theorem listOf_lt (k : Int) : listOf k < 6 := by
  unfold listOf
  repeat' split
  all_goals omega
open Classical in
theorem fieldB_none {x : Ins} {code : Int} {cnt : Nat → Nat} (hr : regsOk x) (h : x.op ∉ ([19, 18, 17, 16, 15, 14, 13, 12, 11, 9, 8, 1] : List Int)) : fieldB x code cnt = decide (x.n = 0) := by
  simp only [List.mem_cons, List.not_mem_nil, or_false, not_or] at h
  unfold fieldB numOk
  have hl : listOf x.op = 0 := by unfold listOf; simp [h]
  rw [if_neg (by omega), if_neg (by omega), if_pos hl]
  simp only [hr, true_and]
open Classical in
theorem fieldB_one {x : Ins} {code : Int} {cnt : Nat → Nat} (hr : regsOk x) (h : x.op = 1) : fieldB x code cnt = true := by
  unfold fieldB numOk
  rw [if_pos h]
  simp only [hr, true_and, decide_true]
open Classical in
theorem fieldB_in {x : Ins} {code : Int} {cnt : Nat → Nat} (hr : regsOk x) (h : x.op = 8 ∨ x.op = 9) : fieldB x code cnt = betw x.n code := by
  unfold fieldB numOk betw
  rw [if_neg (by omega), if_pos h]
  simp only [hr, true_and]
open Classical in
theorem fieldB_of {x : Ins} {code : Int} {cnt : Nat → Nat} (hr : regsOk x) (h : x.op ≠ 1 ∧ x.op ≠ 8 ∧ x.op ≠ 9 ∧ listOf x.op ≠ 0) : fieldB x code cnt = betw x.n (cnt (listOf x.op)) := by
  unfold fieldB numOk betw
  rw [if_neg h.1, if_neg (by omega), if_neg h.2.2.2]
  simp only [hr, true_and]
set_option maxHeartbeats 2000000 in
set_option maxRecDepth 100000 in
theorem field_any (x : Ins) (code : Int) (w : World) (B ga : Nat) (A : Nat → Option Addr) (c : Nat → Nat) (N : Nat → List ByteArray) (hB : B ≤ w.heap.size) (hwf : (Lit.int .i64 x.op).wf = true) (hall : AllIn w B ga A c N) :
    Calls Tryd.prog 36 #[x.val, .int .i64 code, .pointer (some ⟨ga, 0, none⟩)] w fun e w' => e = .returned (.bool (fieldB x code fun k => (N k).length)) ∧ Below w.heap.size w w' := by
  have HA := Lib.hid hall; clear hall
  have HW := Lib.hid hwf; clear hwf
  unfold Ins.val
  go_enter Tryd.func36, Tryd.ntmps36
  go_wp2_with fail
  generalize hW : World.alloc _ _ = W1
  have hb1 : Below w.heap.size w W1 := by subst hW; go_grown
  have q0 : W1.cell? ⟨w.heap.size, 0, none⟩ = some (.int .i64 x.op) := by subst hW; simp [go_sem]
  have q4 : W1.cell? ⟨w.heap.size, 4, none⟩ = some (.int .i64 x.n) := by subst hW; simp [go_sem]
  have q1 : W1.cell? ⟨w.heap.size + 1, 0, none⟩ = some (.int .i64 code) := by subst hW; simp [go_sem]
  have q2 : W1.cell? ⟨w.heap.size + 1 + 1, 0, none⟩ = some (.pointer (some ⟨ga, 0, none⟩)) := by subst hW; simp [go_sem]
  have hs1 : w.heap.size + 1 + 1 + 1 + 1 ≤ W1.heap.size := by subst hW; simp
  clear hW
  go_loopw [23] (fun i wr => ∃ k : Nat, k ≤ 3 ∧ i = .int .i64 k ∧ (∀ j : Nat, j < k → regOk j (x.reg j) (regsN x.op)) ∧ wr = W1) (fun i _ => 3 - (intOf i).toNat)
  case atStart => exact ⟨0, by omega, rfl, by omega, rfl⟩
  case round =>
    obtain ⟨k, hk, rfl, hok, rfl⟩ := hrel
    have HK := Lib.hid hok; clear hok
    by_cases hlt : k < 3
    · have hidx := regs_index x k hlt
      by_cases hr : regOk k (x.reg k) (regsN x.op)
      · have HR := Lib.hid hr
        have r1 : 0 ≤ x.reg k := hr.1
        have r2 : x.reg k < 16 := by have := hr.2.1; omega
        have r3 : (k : Int) < regsN x.op ∨ regsN x.op ≤ (k : Int) ∧ x.reg k = 0 := by
          rcases Int.lt_or_le (k : Int) (regsN x.op) with h | h
          · exact .inl h
          · exact .inr ⟨h, hr.2.2 h⟩
        clear hr
        have hnext : Hid (∀ j : Nat, j < k + 1 → regOk j (x.reg j) (regsN x.op)) := by
          intro j hj
          by_cases e : j = k
          · subst e; exact HR.out
          · exact HK.out j (by omega)
        rcases r3 with h3 | ⟨h3, h4⟩
        · have h3' : decide (regsN x.op ≤ (k : Int)) = false := by simp; omega
          go_wp2_with (go_at_call 42; refine (registers_any _ _).mono ?_; rintro e w' ⟨rfl, rfl⟩)
          go_roundw
          case rel => exact ⟨k + 1, by omega, by go_num, hnext.out, by trivial⟩
          case measure => simp [intOf]; omega
        · have h4' : (x.reg k != 0) = false := by simp [h4]
          clear h4
          go_wp2_with (go_at_call 42; refine (registers_any _ _).mono ?_; rintro e w' ⟨rfl, rfl⟩)
          go_roundw
          case rel => exact ⟨k + 1, by omega, by go_num, hnext.out, by trivial⟩
          case measure => simp [intOf]; omega
      · have hbad := Lib.hid (fieldB_regs (code := code) (cnt := fun k => (N k).length) k hlt hr)
        have r3 : x.reg k < 0 ∨ 0 ≤ x.reg k ∧ 16 ≤ x.reg k ∨ 0 ≤ x.reg k ∧ x.reg k < 16 ∧ regsN x.op ≤ (k : Int) ∧ (x.reg k != 0) = true := by
          unfold regOk at hr
          rcases Int.lt_or_le (x.reg k) 0 with h | h
          · exact .inl h
          · rcases Int.lt_or_le (x.reg k) 16 with h' | h'
            · refine .inr (.inr ⟨h, h', ?_⟩)
              rw [bne_iff_ne]
              omega
            · exact .inr (.inl ⟨h, h'⟩)
        clear hr
        rcases r3 with h3 | ⟨h3, h4⟩ | ⟨h3, h4, h5, h6⟩
        all_goals
          go_wp2_with (go_at_call 42; refine (registers_any _ _).mono ?_; rintro e w' ⟨rfl, rfl⟩)
          go_ret
          exact ⟨ret_bool hbad.out.symm, hb1⟩
    · obtain rfl : k = 3 := by omega
      have HR := Lib.hid (regsOk_of HK.out)
      have hmm := @run_makeMap Tryd.prog
      clear HK hk hlt
      go_wp2_with (first | (go_at_call 43; refine (of_any _ _ _ _).mono ?_; rintro e w' ⟨rfl, rfl⟩) | (refine wpList_ask rfl _ _ _ rfl rfl (.pointer (some ⟨w.heap.size, 0, none⟩)) (.pointer (some ⟨w.heap.size + 1 + 1, 0, none⟩)) (.pointer (some ⟨w.heap.size + 1, 0, none⟩)) wr wr.heap.size _ _ (by rfl) (by first | exact hfm.alloc _ | exact hfm | exact Asks.made _ _ _ _) (by refine Nat.lt_trans (m := 11) ?_ (by decide); omega) _ _ (by rfl) (by decide) (by rfl) (by first | exact .inl ⟨rfl, rfl⟩ | exact .inr (.inl ⟨by decide, rfl⟩) | exact .inr (.inr ⟨_, by decide, by decide, by decide, by decide, rfl, by simp [go_sem, listOf], by have := hfm.lt; omega⟩)) ?_; intro w2 hfm2; have hfm := hfm2; clear hfm2) | (refine wpList_ask rfl _ _ _ rfl rfl (.pointer (some ⟨w.heap.size, 0, none⟩)) (.pointer (some ⟨w.heap.size + 1 + 1, 0, none⟩)) (.pointer (some ⟨w.heap.size + 1, 0, none⟩)) wr wr.heap.size _ _ (by rfl) (by first | exact hfm.alloc _ | exact hfm | exact Asks.made _ _ _ _) (by simp only [maxLen]; omega) _ _ (by rfl) (by decide) (by rfl) (by first | exact .inl ⟨rfl, rfl⟩ | exact .inr (.inl ⟨by decide, rfl⟩) | exact .inr (.inr ⟨_, by decide, by decide, by decide, by decide, rfl, by simp [go_sem, listOf], by have := hfm.lt; omega⟩)) ?_; intro w2 hfm2; have q0 := hfm2.keep q0 (by show w.heap.size < wr.heap.size; omega); have q4 := hfm2.keep q4 (by show w.heap.size < wr.heap.size; omega); have q1 := hfm2.keep q1 (by show w.heap.size + 1 < wr.heap.size; omega); have q2 := hfm2.keep q2 (by show w.heap.size + 1 + 1 < wr.heap.size; omega); have HF := Lib.hid hfm2; rcases hfm2.split HW.out with ⟨hv, hl⟩ | ⟨hv, hl⟩ | ⟨hv, hl⟩ | ⟨g, hv, hg, hl⟩))
      all_goals go_wp2_with (first | (go_at_call 46; refine (true_any _).mono ?_; rintro e w' ⟨rfl, rfl⟩) | (go_at_call 45; refine (within_any _ _ _ _ _ q4 q1).mono ?_; rintro e w' ⟨rfl, rfl⟩) | (go_at_call 44; refine (among_any _ _ _ ga _ _ _ _ _ _ q4 q2 hg (listOf_lt _) ((HA.out.below ((hb1.trans (HF.out.below.mono (by omega))).mono hB)).cell _ (listOf_lt _))).mono ?_; rintro e w' ⟨rfl, hb9⟩))
      · go_ret
        refine ⟨ret_bool ?_, hb1.trans (HF.out.below.mono (by omega))⟩
        rw [fieldB_none HR.out hv.out]
        exact bool_iff (by simp)
      · go_ret
        exact ⟨ret_bool (fieldB_one HR.out hv.out).symm, hb1.trans (HF.out.below.mono (by omega))⟩
      · go_ret
        exact ⟨ret_bool (fieldB_in HR.out hv.out).symm, hb1.trans (HF.out.below.mono (by omega))⟩
      · go_ret
        exact ⟨ret_bool (fieldB_of (cnt := fun k => (N k).length) HR.out hv.out).symm, (hb1.trans (HF.out.below.mono (by omega))).trans (hb9.mono (by have := HF.out.below.size; omega))⟩
end Go.Proofs.YtknnbckmdfnmaaaDoor
