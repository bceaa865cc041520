/- Contract of abreastlaw13.touched. Conditions: the lists are read; what the instruction names is in its list just if it may. -/
import Derived.Test.YtgdnpmpnkbnjaaaGreatDoorZK
import Derived.Test.YtgdnpmpnkbnjaaaGreatDoorZTouches
namespace Go.Proofs.YtgdnpmpnkbnjaaaGreatDoor
open Go.RowKit

set_option maxRecDepth 100000 in
set_option maxHeartbeats 4000000 in
theorem touched_any (x : Ins) (A : Nat → Option Addr) (c : Nat → Nat) (l : Nat → List Nat) (may : Bool) (w : World) (h : TouchAt w w.heap.size A l) (hl : ∀ k, k < 9 → (l k).length ≤ 4611686018427387904)
    (hm : ∀ k : Nat, k < 9 → x.op = 11 + (k : Int) → hasB (l k) x.n = may) :
    Calls Tryz.prog 11 #[x.val, touchV A c l, .bool may] w fun e w' => e = .returned (.bool true) ∧ Below w.heap.size w w' := by
  have HH := Lib.hid h; clear h
  have HL := Lib.hid hl; clear hl
  have HM := Lib.hid hm; clear hm
  have hb : Hid (∀ W, W = (w.alloc (.cells #[.int .i64 x.op, .int .i64 x.a, .int .i64 x.b, .int .i64 x.c, .int .i64 x.n] 53)).alloc (.cells #[.slice (A 0) (l 0).length (c 0), .slice (A 1) (l 1).length (c 1), .slice (A 2) (l 2).length (c 2), .slice (A 3) (l 3).length (c 3), .slice (A 4) (l 4).length (c 4), .slice (A 5) (l 5).length (c 5), .slice (A 6) (l 6).length (c 6), .slice (A 7) (l 7).length (c 7), .slice (A 8) (l 8).length (c 8)] 34) → Below w.heap.size w W) := Lib.hid (by rintro W rfl; go_grown)
  unfold Ins.val touchV
  by_cases ho : 11 ≤ x.op ∧ x.op ≤ 19
  · obtain ⟨k, hk, hop⟩ : ∃ k : Nat, k < 9 ∧ x.op = 11 + (k : Int) := ⟨(x.op - 11).toNat, by omega, by omega⟩
    clear ho
    have h9 : k = 0 ∨ k = 1 ∨ k = 2 ∨ k = 3 ∨ k = 4 ∨ k = 5 ∨ k = 6 ∨ k = 7 ∨ k = 8 := by omega
    rcases h9 with rfl | rfl | rfl | rfl | rfl | rfl | rfl | rfl | rfl
    · have HQ := Lib.hid (HM.out 0 (by omega) hop)
      have hop2 : x.op = 11 := by omega
      have d0 : (x.op == 11) = true := by simp [hop2]
      clear hop hop2 hk
      go_enter Tryz.func11, Tryz.ntmps11
      go_wp2_with (go_at_call 8; refine (has_any (l 0) x.n (A 0) (c 0) _ (((HH.out 0 (by omega)).below (hb.out _ rfl)).more (hb.out _ rfl).size) (HL.out 0 (by omega))).mono ?_; rintro e w' ⟨rfl, rfl⟩; rw [HQ.out])
      go_ret
      exact ⟨ret_bool (by simp), hb.out _ rfl⟩
    · have HQ := Lib.hid (HM.out 1 (by omega) hop)
      have hop2 : x.op = 12 := by omega
      have d0 : (x.op == 11) = false := by simp [hop2]
      have d1 : (x.op == 12) = true := by simp [hop2]
      clear hop hop2 hk
      go_enter Tryz.func11, Tryz.ntmps11
      go_wp2_with (go_at_call 8; refine (has_any (l 1) x.n (A 1) (c 1) _ (((HH.out 1 (by omega)).below (hb.out _ rfl)).more (hb.out _ rfl).size) (HL.out 1 (by omega))).mono ?_; rintro e w' ⟨rfl, rfl⟩; rw [HQ.out])
      go_ret
      exact ⟨ret_bool (by simp), hb.out _ rfl⟩
    · have HQ := Lib.hid (HM.out 2 (by omega) hop)
      have hop2 : x.op = 13 := by omega
      have d0 : (x.op == 11) = false := by simp [hop2]
      have d1 : (x.op == 12) = false := by simp [hop2]
      have d2 : (x.op == 13) = true := by simp [hop2]
      clear hop hop2 hk
      go_enter Tryz.func11, Tryz.ntmps11
      go_wp2_with (go_at_call 8; refine (has_any (l 2) x.n (A 2) (c 2) _ (((HH.out 2 (by omega)).below (hb.out _ rfl)).more (hb.out _ rfl).size) (HL.out 2 (by omega))).mono ?_; rintro e w' ⟨rfl, rfl⟩; rw [HQ.out])
      go_ret
      exact ⟨ret_bool (by simp), hb.out _ rfl⟩
    · have HQ := Lib.hid (HM.out 3 (by omega) hop)
      have hop2 : x.op = 14 := by omega
      have d0 : (x.op == 11) = false := by simp [hop2]
      have d1 : (x.op == 12) = false := by simp [hop2]
      have d2 : (x.op == 13) = false := by simp [hop2]
      have d3 : (x.op == 14) = true := by simp [hop2]
      clear hop hop2 hk
      go_enter Tryz.func11, Tryz.ntmps11
      go_wp2_with (go_at_call 8; refine (has_any (l 3) x.n (A 3) (c 3) _ (((HH.out 3 (by omega)).below (hb.out _ rfl)).more (hb.out _ rfl).size) (HL.out 3 (by omega))).mono ?_; rintro e w' ⟨rfl, rfl⟩; rw [HQ.out])
      go_ret
      exact ⟨ret_bool (by simp), hb.out _ rfl⟩
    · have HQ := Lib.hid (HM.out 4 (by omega) hop)
      have hop2 : x.op = 15 := by omega
      have d0 : (x.op == 11) = false := by simp [hop2]
      have d1 : (x.op == 12) = false := by simp [hop2]
      have d2 : (x.op == 13) = false := by simp [hop2]
      have d3 : (x.op == 14) = false := by simp [hop2]
      have d4 : (x.op == 15) = true := by simp [hop2]
      clear hop hop2 hk
      go_enter Tryz.func11, Tryz.ntmps11
      go_wp2_with (go_at_call 8; refine (has_any (l 4) x.n (A 4) (c 4) _ (((HH.out 4 (by omega)).below (hb.out _ rfl)).more (hb.out _ rfl).size) (HL.out 4 (by omega))).mono ?_; rintro e w' ⟨rfl, rfl⟩; rw [HQ.out])
      go_ret
      exact ⟨ret_bool (by simp), hb.out _ rfl⟩
    · have HQ := Lib.hid (HM.out 5 (by omega) hop)
      have hop2 : x.op = 16 := by omega
      have d0 : (x.op == 11) = false := by simp [hop2]
      have d1 : (x.op == 12) = false := by simp [hop2]
      have d2 : (x.op == 13) = false := by simp [hop2]
      have d3 : (x.op == 14) = false := by simp [hop2]
      have d4 : (x.op == 15) = false := by simp [hop2]
      have d5 : (x.op == 16) = true := by simp [hop2]
      clear hop hop2 hk
      go_enter Tryz.func11, Tryz.ntmps11
      go_wp2_with (go_at_call 8; refine (has_any (l 5) x.n (A 5) (c 5) _ (((HH.out 5 (by omega)).below (hb.out _ rfl)).more (hb.out _ rfl).size) (HL.out 5 (by omega))).mono ?_; rintro e w' ⟨rfl, rfl⟩; rw [HQ.out])
      go_ret
      exact ⟨ret_bool (by simp), hb.out _ rfl⟩
    · have HQ := Lib.hid (HM.out 6 (by omega) hop)
      have hop2 : x.op = 17 := by omega
      have d0 : (x.op == 11) = false := by simp [hop2]
      have d1 : (x.op == 12) = false := by simp [hop2]
      have d2 : (x.op == 13) = false := by simp [hop2]
      have d3 : (x.op == 14) = false := by simp [hop2]
      have d4 : (x.op == 15) = false := by simp [hop2]
      have d5 : (x.op == 16) = false := by simp [hop2]
      have d6 : (x.op == 17) = true := by simp [hop2]
      clear hop hop2 hk
      go_enter Tryz.func11, Tryz.ntmps11
      go_wp2_with (go_at_call 8; refine (has_any (l 6) x.n (A 6) (c 6) _ (((HH.out 6 (by omega)).below (hb.out _ rfl)).more (hb.out _ rfl).size) (HL.out 6 (by omega))).mono ?_; rintro e w' ⟨rfl, rfl⟩; rw [HQ.out])
      go_ret
      exact ⟨ret_bool (by simp), hb.out _ rfl⟩
    · have HQ := Lib.hid (HM.out 7 (by omega) hop)
      have hop2 : x.op = 18 := by omega
      have d0 : (x.op == 11) = false := by simp [hop2]
      have d1 : (x.op == 12) = false := by simp [hop2]
      have d2 : (x.op == 13) = false := by simp [hop2]
      have d3 : (x.op == 14) = false := by simp [hop2]
      have d4 : (x.op == 15) = false := by simp [hop2]
      have d5 : (x.op == 16) = false := by simp [hop2]
      have d6 : (x.op == 17) = false := by simp [hop2]
      have d7 : (x.op == 18) = true := by simp [hop2]
      clear hop hop2 hk
      go_enter Tryz.func11, Tryz.ntmps11
      go_wp2_with (go_at_call 8; refine (has_any (l 7) x.n (A 7) (c 7) _ (((HH.out 7 (by omega)).below (hb.out _ rfl)).more (hb.out _ rfl).size) (HL.out 7 (by omega))).mono ?_; rintro e w' ⟨rfl, rfl⟩; rw [HQ.out])
      go_ret
      exact ⟨ret_bool (by simp), hb.out _ rfl⟩
    · have HQ := Lib.hid (HM.out 8 (by omega) hop)
      have hop2 : x.op = 19 := by omega
      have d0 : (x.op == 11) = false := by simp [hop2]
      have d1 : (x.op == 12) = false := by simp [hop2]
      have d2 : (x.op == 13) = false := by simp [hop2]
      have d3 : (x.op == 14) = false := by simp [hop2]
      have d4 : (x.op == 15) = false := by simp [hop2]
      have d5 : (x.op == 16) = false := by simp [hop2]
      have d6 : (x.op == 17) = false := by simp [hop2]
      have d7 : (x.op == 18) = false := by simp [hop2]
      have d8 : (x.op == 19) = true := by simp [hop2]
      clear hop hop2 hk
      go_enter Tryz.func11, Tryz.ntmps11
      go_wp2_with (go_at_call 8; refine (has_any (l 8) x.n (A 8) (c 8) _ (((HH.out 8 (by omega)).below (hb.out _ rfl)).more (hb.out _ rfl).size) (HL.out 8 (by omega))).mono ?_; rintro e w' ⟨rfl, rfl⟩; rw [HQ.out])
      go_ret
      exact ⟨ret_bool (by simp), hb.out _ rfl⟩
  · have hne : ∀ k : Int, 11 ≤ k → k ≤ 19 → x.op ≠ k := by intro k h1 h2 e; omega
    have d0 : (x.op == 11) = false := by simpa using hne 11 (by omega) (by omega)
    have d1 : (x.op == 12) = false := by simpa using hne 12 (by omega) (by omega)
    have d2 : (x.op == 13) = false := by simpa using hne 13 (by omega) (by omega)
    have d3 : (x.op == 14) = false := by simpa using hne 14 (by omega) (by omega)
    have d4 : (x.op == 15) = false := by simpa using hne 15 (by omega) (by omega)
    have d5 : (x.op == 16) = false := by simpa using hne 16 (by omega) (by omega)
    have d6 : (x.op == 17) = false := by simpa using hne 17 (by omega) (by omega)
    have d7 : (x.op == 18) = false := by simpa using hne 18 (by omega) (by omega)
    have d8 : (x.op == 19) = false := by simpa using hne 19 (by omega) (by omega)
    clear hne ho
    go_enter Tryz.func11, Tryz.ntmps11
    go_wp2_with fail
    go_ret
    exact ⟨rfl, hb.out _ rfl⟩
end Go.Proofs.YtgdnpmpnkbnjaaaGreatDoor
