/- Contracts of parse.starts, parse.Word and abreastref08.Word: whether a text is one of the assembler's words. Conditions: as before. -/
import Derived.Test.YtknnbckmdfnmaaaDoorNamesE
namespace Go.Proofs.YtknnbckmdfnmaaaDoor
open Go.RowKit

def wordB (l : List UInt8) : Bool := decide (opN l ≠ 0 ∨ 0 ≤ regN l ∨ kindN l ≠ 0)
def startsL : List ByteArray := [⟨#[]⟩, ⟨#[118, 97, 114]⟩, ⟨#[118, 111, 108]⟩, ⟨#[109, 117, 116, 101, 120]⟩, ⟨#[103, 97, 116, 101]⟩, ⟨#[116, 104, 114, 101, 97, 100]⟩]

set_option maxHeartbeats 400000 in
theorem starts_any (w : World) :
    Calls Tryd.prog 55 #[] w fun e w' => ∃ g, e = .returned (.slice (some ⟨g, 0, none⟩) 6 6) ∧ (∀ j, j < startsL.length → w'.cell? ⟨g, 0 + j, none⟩ = some (.string (startsL.getD j ByteArray.empty))) ∧ Below w.heap.size w w' := by
  go_enter Tryd.func55, Tryd.ntmps55
  go_wp2
  go_ret
  refine ⟨_, rfl, ?_, by go_grown⟩
  intro j hj
  have hk : j = 0 ∨ j = 1 ∨ j = 2 ∨ j = 3 ∨ j = 4 ∨ j = 5 := by simp [startsL] at hj; omega
  rcases hk with rfl | rfl | rfl | rfl | rfl | rfl <;> simp [go_sem, startsL]

theorem kindN_iff (s : ByteArray) (h : s.toList ≠ []) : (Lib.containsS startsL s) = decide (kindN s.toList ≠ 0) := by
  have h1 : Lib.containsS startsL s = true ↔ s ∈ startsL := by first | exact Lib.containsS_iff _ _ | exact Lib.containsS_iff
  have hl : ∀ b : List UInt8, s = ⟨b.toArray⟩ ↔ b = s.toList := by
    intro b
    rw [Lib.toList_data]
    constructor
    · rintro rfl; simp
    · intro e
      cases s with
      | mk d => simp at e; subst e; simp
  refine bool_iff (h1.trans ?_)
  unfold startsL kindN
  simp only [List.mem_cons, List.not_mem_nil, or_false]
  rw [hl [], hl [118, 97, 114], hl [118, 111, 108], hl [109, 117, 116, 101, 120], hl [103, 97, 116, 101], hl [116, 104, 114, 101, 97, 100]]
  have h' : ¬ [] = s.toList := fun e => h e.symm
  simp only [h', false_or]
  repeat' split
  all_goals simp_all

theorem wordB_nil : wordB [] = false := by rfl
theorem wordB_op {l : List UInt8} (h : (opN l : Int) ≠ 0) : wordB l = true := by unfold wordB; simp; omega
theorem wordB_reg {l : List UInt8} (h : 0 ≤ regN l) : wordB l = true := by unfold wordB; simp; omega
theorem wordB_kind {l : List UInt8} (h : (opN l : Int) = 0) (h2 : ¬ 0 ≤ regN l) : wordB l = decide (kindN l ≠ 0) := by
  unfold wordB
  have : opN l = 0 := by omega
  simp [this, h2]

set_option maxHeartbeats 400000 in
theorem refWord_any (s : ByteArray) (w : World) :
    Calls Tryd.prog 38 #[.string s] w fun e w' => e = .returned (.bool (wordB s.toList)) ∧ Below w.heap.size w w' := by
  by_cases h1 : (opN s.toList : Int) = 0
  · by_cases h2 : 0 ≤ regN s.toList
    · have hr := Lib.hid (wordB_reg h2)
      have h1 : decide (0 < (opN s.toList : Int)) = false := by simp; omega
      go_enter Tryd.func38, Tryd.ntmps38
      go_wp2_with fail
      refine (refOp_any s _).mono ?_
      rintro e w1 ⟨rfl, hb1⟩
      go_wp2_with fail
      refine (refRegister_any s _).mono ?_
      rintro e w2 ⟨rfl, hb2⟩
      go_wp2_with fail
      go_ret
      exact ⟨ret_bool hr.out.symm, hb1.trans (hb2.mono hb1.size)⟩
    · have hr := Lib.hid (wordB_kind h1 h2)
      have h1 : decide (0 < (opN s.toList : Int)) = false := by simp; omega
      have h3 : decide (0 ≤ regN s.toList) = false := by simp; omega
      clear h2
      go_enter Tryd.func38, Tryd.ntmps38
      go_wp2_with fail
      refine (refOp_any s _).mono ?_
      rintro e w1 ⟨rfl, hb1⟩
      go_wp2_with fail
      refine (refRegister_any s _).mono ?_
      rintro e w2 ⟨rfl, hb2⟩
      go_wp2_with fail
      refine (kind_any s _).mono ?_
      rintro e w3 ⟨rfl, hb3⟩
      go_wp2_with fail
      go_ret
      have hb := hb1.trans (hb2.mono hb1.size)
      refine ⟨ret_bool ?_, hb.trans (hb3.mono hb.size)⟩
      rw [hr.out]
      exact decide_eq_decide.2 (by omega)
  · have hr := Lib.hid (wordB_op h1)
    have h1 : decide (0 < (opN s.toList : Int)) = true := by simp; omega
    go_enter Tryd.func38, Tryd.ntmps38
    go_wp2_with fail
    refine (refOp_any s _).mono ?_
    rintro e w1 ⟨rfl, hb1⟩
    go_wp2_with fail
    go_ret
    exact ⟨ret_bool hr.out.symm, hb1⟩

set_option maxHeartbeats 400000 in
theorem word_any {B : Nat} (s : ByteArray) (hs : s.size ≤ 140737488355328) (w : World) (hB : B ≤ w.heap.size) (gv : GV B w) :
    Calls Tryd.prog 41 #[.string s] w fun e w' => e = .returned (.bool (wordB s.toList)) ∧ Below w.heap.size w w' := by
  cases h0 : s.toList.isEmpty with
  | true =>
    have hr : Hid (wordB s.toList = false) := by rw [List.isEmpty_iff.1 h0]; exact wordB_nil
    go_enter Tryd.func41, Tryd.ntmps41
    go_wp2_with fail
    go_ret
    exact ⟨ret_bool hr.out.symm, Below.refl _ _⟩
  | false =>
    have hne : Hid (s.toList ≠ []) := by intro e; rw [e] at h0; cases h0
    by_cases h1 : (opN s.toList : Int) = 0
    · by_cases h2 : 0 ≤ regN s.toList
      · have hr := Lib.hid (wordB_reg h2)
        have h1 : ((opN s.toList : Int) != 0) = false := by simp; omega
        go_enter Tryd.func41, Tryd.ntmps41
        go_wp2_with fail
        refine (parseOp_any s _).mono ?_
        rintro e w1 ⟨rfl, hb1⟩
        go_wp2_with fail
        refine (register_any s hs _ (Nat.le_trans hB hb1.size) (gv.below (hb1.mono hB))).mono ?_
        rintro e w2 ⟨rfl, hb2⟩
        go_wp2_with fail
        go_ret
        exact ⟨ret_bool hr.out.symm, hb1.trans (hb2.mono hb1.size)⟩
      · have hr := Lib.hid (wordB_kind h1 h2)
        have h1 : ((opN s.toList : Int) != 0) = false := by simp; omega
        have h3 : decide (0 ≤ regN s.toList) = false := by simp; omega
        clear h2
        go_enter Tryd.func41, Tryd.ntmps41
        go_wp2_with fail
        refine (parseOp_any s _).mono ?_
        rintro e w1 ⟨rfl, hb1⟩
        go_wp2_with fail
        refine (register_any s hs _ (Nat.le_trans hB hb1.size) (gv.below (hb1.mono hB))).mono ?_
        rintro e w2 ⟨rfl, hb2⟩
        go_wp2_with fail
        refine (starts_any _).mono ?_
        rintro e w3 ⟨g, rfl, hc, hb3⟩
        have HC := Lib.hid hc; clear hc
        go_wp2_with fail
        refine (Tryd.slices_Contains_string g 0 6 6 startsL s _ (by simp [startsL]) (by omega) HC.out).mono ?_
        rintro e w4 ⟨rfl, rfl⟩
        go_wp2_with fail
        go_ret
        have hb := hb1.trans (hb2.mono hb1.size)
        refine ⟨ret_bool ?_, hb.trans (hb3.mono hb.size)⟩
        rw [hr.out, ← kindN_iff s hne.out]
        rfl
    · have hr := Lib.hid (wordB_op h1)
      have h1 : ((opN s.toList : Int) != 0) = true := by simp; omega
      go_enter Tryd.func41, Tryd.ntmps41
      go_wp2_with fail
      refine (parseOp_any s _).mono ?_
      rintro e w1 ⟨rfl, hb1⟩
      go_wp2_with fail
      go_ret
      exact ⟨ret_bool hr.out.symm, hb1⟩
end Go.Proofs.YtknnbckmdfnmaaaDoor
