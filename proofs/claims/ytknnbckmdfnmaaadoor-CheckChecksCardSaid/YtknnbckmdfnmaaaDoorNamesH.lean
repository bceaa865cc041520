/- Contracts of abreastref08.Name and parse.Name: whether a text is a name. Conditions: as before. -/
import Derived.Test.YtknnbckmdfnmaaaDoorNamesG
namespace Go.Proofs.YtknnbckmdfnmaaaDoor
open Go.RowKit

theorem nameB_sh {s : ByteArray} (h : shapedB s = false) : nameB s = false := by simp [nameB, h]
theorem nameB_len {s : ByteArray} (h : ¬ s.size ≤ 24) : nameB s = false := by simp [nameB, h]
theorem nameB_else {s : ByteArray} (h : shapedB s = true) (h2 : s.size ≤ 24) : nameB s = !wordB s.toList := by simp [nameB, h, h2]

set_option maxHeartbeats 400000 in
theorem refName_any (s : ByteArray) (hs : s.size ≤ 140737488355328) (w : World) :
    Calls Tryd.prog 29 #[.string s] w fun e w' => e = .returned (.bool (nameB s)) ∧ Below w.heap.size w w' := by
  cases hsh : shapedB s with
  | false =>
    have hr := Lib.hid (nameB_sh hsh)
    go_enter Tryd.func29, Tryd.ntmps29
    go_wp2_with (first | (go_at_call 37; refine (shaped_any s hs _).mono ?_; rintro e w' ⟨rfl, rfl⟩))
    go_ret
    exact ⟨ret_bool hr.out.symm, Below.refl _ _⟩
  | true =>
    by_cases h24 : s.size ≤ 24
    · have hr := Lib.hid (nameB_else hsh h24)
      go_enter Tryd.func29, Tryd.ntmps29
      go_wp2_with (first | (go_at_call 37; refine (shaped_any s hs _).mono ?_; rintro e w' ⟨rfl, rfl⟩) | (go_at_call 38; refine (refWord_any s _).mono ?_; rintro e w1 ⟨rfl, hb1⟩))
      go_ret
      exact ⟨ret_bool hr.out.symm, hb1⟩
    · have hr := Lib.hid (nameB_len h24)
      go_enter Tryd.func29, Tryd.ntmps29
      go_wp2_with (first | (go_at_call 37; refine (shaped_any s hs _).mono ?_; rintro e w' ⟨rfl, rfl⟩))
      go_ret
      exact ⟨ret_bool hr.out.symm, Below.refl _ _⟩

def or32 (c : UInt8) : Nat := (c ||| 32).toNat
theorem or32_let (c : UInt8) : letB c.toNat = decide (97 ≤ or32 c ∧ or32 c ≤ 122) := by
  have h : ∀ n : Fin 256, letB (UInt8.ofNat n.val).toNat = decide (97 ≤ or32 (UInt8.ofNat n.val) ∧ or32 (UInt8.ofNat n.val) ≤ 122) := by decide +kernel
  have := h ⟨c.toNat, c.toNat_lt⟩
  simpa using this
theorem or32_bits (c : UInt8) : bits .or .u8 (c.toNat : Int) 32 = (or32 c : Int) := by
  have h : ∀ n : Fin 256, bits .or .u8 ((UInt8.ofNat n.val).toNat : Int) 32 = (or32 (UInt8.ofNat n.val) : Int) := by decide +kernel
  have := h ⟨c.toNat, c.toNat_lt⟩
  simpa using this

set_option maxHeartbeats 400000 in
theorem name_x {B : Nat} (s : ByteArray) (h24 : s.size ≤ 24) (hne : s.toList.isEmpty = false) (w : World) (hB : B ≤ w.heap.size) (gv : GV B w) (hw : wordB s.toList = false) :
    Calls Tryd.prog 34 #[.string s] w fun e w' => e = .returned (.bool (nameB s)) ∧ Below w.heap.size w w' := by
  go_enter Tryd.func34, Tryd.ntmps34
  go_wp2_with fail
  refine (word_any s (by omega) _ hB gv).mono ?_
  rintro e w1 ⟨rfl, hb1⟩
  have hw2 := Lib.hid hw; clear hw
  have h24' : decide ((24 : Int) < (s.size : Int)) = false := by simp; omega
  rw [hw2.out]
  go_wp2_with fail
  go_loop [19] (fun i => ∃ k : Nat, k ≤ s.size ∧ i = .int .i64 k ∧ shapedTo s k) (fun i => s.size - (intOf i).toNat)
  case atStart => exact ⟨0, by omega, rfl, fun i h hi => by omega⟩
  case round =>
    obtain ⟨k, hk, rfl, hN⟩ := hrel
    have HN := Lib.hid hN; clear hN
    by_cases hlt : k < s.size
    · have hor := or32_bits s[k]
      have hlet := or32_let s[k]
      cases hl : letB s[k].toNat with
      | true =>
        rw [hl] at hlet
        have hlo : (97 : Int) ≤ (or32 s[k] : Int) := by have := of_decide_eq_true hlet.symm; omega
        have hhi : (or32 s[k] : Int) ≤ 122 := by have := of_decide_eq_true hlet.symm; omega
        clear hlet
        have hgood := Lib.hid (shaped_step hlt HN.out (charB_let hl))
        clear hl
        go_wp2_with fail
        go_round
        case rel => exact ⟨k + 1, by omega, by go_num, hgood.out⟩
        case measure => simp [intOf]; omega
      | false =>
        rw [hl] at hlet
        have hout : (or32 s[k] : Int) < 97 ∨ 97 ≤ (or32 s[k] : Int) ∧ 122 < (or32 s[k] : Int) := by have := of_decide_eq_false hlet.symm; omega
        clear hlet
        rcases hout with hlo | ⟨hlo, hhi⟩
        all_goals
          try have hhi' : decide ((or32 s[k] : Int) ≤ 122) = false := by simp; omega
          by_cases h0 : k = 0
          · subst h0
            have hbad := Lib.hid (shaped_bad hlt (charB_first hl))
            clear hl
            go_wp2_with fail
            go_ret
            exact ⟨ret_bool (nameB_sh hbad.out).symm, hb1⟩
          · have k0 : ((k : Int) == 0) = false := by simp; omega
            by_cases hm : (s[k].toNat : Int) = 95 ∨ 48 ≤ (s[k].toNat : Int) ∧ (s[k].toNat : Int) ≤ 57
            · have hgood := Lib.hid (shaped_step hlt HN.out (charB_more h0 hm))
              clear h0 hl
              go_wp2_with fail
              all_goals first
                | (exfalso; simp at *; omega)
                | (go_round
                   case rel => exact ⟨k + 1, by omega, by go_num, hgood.out⟩
                   case measure => simp [intOf]; omega)
            · have hbad := Lib.hid (shaped_bad hlt (charB_not (k := k) hl (by omega) (by omega)))
              clear h0 hl
              go_wp2_with fail
              all_goals first
                | (go_ret; exact ⟨ret_bool (nameB_sh hbad.out).symm, hb1⟩)
                | (exfalso; simp at *; omega)
    · obtain rfl : k = s.size := by omega
      have hz : 0 < s.size := by
        rcases Nat.eq_zero_or_pos s.size with h | h
        · have : s.toList = [] := by
            rw [Lib.toList_data]
            exact List.eq_nil_of_length_eq_zero (by rw [← Lib.size_eq]; exact h)
          rw [this] at hne
          cases hne
        · exact h
      have hgood : Hid (nameB s = true) := by
        have := shaped_end HN.out
        rw [decide_eq_true hz] at this
        show _ = _
        rw [nameB_else this h24, hw2.out]
        rfl
      go_wp2_with fail
      go_ret
      exact ⟨ret_bool hgood.out.symm, hb1⟩

set_option maxHeartbeats 400000 in
theorem name_any {B : Nat} (s : ByteArray) (hs : s.size ≤ 140737488355328) (w : World) (hB : B ≤ w.heap.size) (gv : GV B w) :
    Calls Tryd.prog 34 #[.string s] w fun e w' => e = .returned (.bool (nameB s)) ∧ Below w.heap.size w w' := by
  cases hne : s.toList.isEmpty with
  | true =>
    have hr : Hid (nameB s = false) := by
      have h0 : s.size = 0 := by rw [Lib.size_eq, ← Lib.toList_data, List.isEmpty_iff.1 hne]; rfl
      exact nameB_sh (by simp [shapedB, h0])
    go_enter Tryd.func34, Tryd.ntmps34
    go_wp2_with fail
    go_ret
    exact ⟨ret_bool hr.out.symm, Below.refl _ _⟩
  | false =>
    by_cases h24 : s.size ≤ 24
    · cases hw : wordB s.toList with
      | false => exact name_x s h24 hne w hB gv hw
      | true =>
        have hr : Hid (nameB s = false) := by show _ = _; simp [nameB, hw]
        have h24' : decide ((24 : Int) < (s.size : Int)) = false := by simp; omega
        have hw2 := Lib.hid hw; clear hw
        go_enter Tryd.func34, Tryd.ntmps34
        go_wp2_with fail
        refine (word_any s (by omega) _ hB gv).mono ?_
        rintro e w1 ⟨rfl, hb1⟩
        rw [hw2.out]
        go_wp2_with fail
        go_ret
        exact ⟨ret_bool hr.out.symm, hb1⟩
    · have hr := Lib.hid (nameB_len h24)
      have h24' : decide ((24 : Int) < (s.size : Int)) = true := by simp; omega
      clear h24
      go_enter Tryd.func34, Tryd.ntmps34
      go_wp2_with fail
      go_ret
      exact ⟨ret_bool hr.out.symm, Below.refl _ _⟩
end Go.Proofs.YtknnbckmdfnmaaaDoor
