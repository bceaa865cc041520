/- Contracts of abreastref08.shaped, abreastref08.Name and parse.Name: whether a text is a name. Conditions: as before. -/
import Derived.Test.YtknnbckmdfnmaaaDoorNamesF
namespace Go.Proofs.YtknnbckmdfnmaaaDoor
open Go.RowKit

def letB (c : Nat) : Bool := decide (97 ≤ c ∧ c ≤ 122 ∨ 65 ≤ c ∧ c ≤ 90)
def charB (i : Nat) (c : UInt8) : Bool := letB c.toNat || (decide (i ≠ 0) && decide (c.toNat = 95 ∨ 48 ≤ c.toNat ∧ c.toNat ≤ 57))
def shapedTo (s : ByteArray) (k : Nat) : Prop := ∀ i (h : i < s.size), i < k → charB i s[i] = true
def shapedB (s : ByteArray) : Bool := decide (s.size ≠ 0 ∧ ∀ i (h : i < s.size), charB i s[i] = true)
def nameB (s : ByteArray) : Bool := shapedB s && decide (s.size ≤ 24) && !wordB s.toList

set_option maxHeartbeats 400000 in
theorem letter_any (c : Nat) (w : World) :
    Calls Tryd.prog 47 #[.int .u8 (c : Int)] w fun e w' => e = .returned (.bool (letB c)) ∧ w = w' := by
  go_enter Tryd.func47, Tryd.ntmps47
  go_wp2
  all_goals (go_ret; refine ⟨ret_bool ?_, rfl⟩; unfold letB; refine bool_iff ?_; simp; try omega)

theorem shaped_step {s : ByteArray} {k : Nat} (h : k < s.size) (hN : shapedTo s k) (hc : charB k s[k] = true) : shapedTo s (k + 1) := by
  intro i hi hik
  by_cases e : i = k
  · subst e; exact hc
  · exact hN i hi (by omega)
theorem shaped_bad {s : ByteArray} {k : Nat} (h : k < s.size) (hc : charB k s[k] = false) : shapedB s = false := by
  unfold shapedB
  refine decide_eq_false ?_
  rintro ⟨_, hh⟩
  rw [hh k h] at hc
  cases hc
theorem shaped_end {s : ByteArray} (h : shapedTo s s.size) : shapedB s = decide (0 < s.size) := by
  unfold shapedB
  refine decide_eq_decide.2 ⟨fun hh => by omega, fun hh => ⟨by omega, fun i hi => h i hi hi⟩⟩
theorem charB_let {k : Nat} {c : UInt8} (h : letB c.toNat = true) : charB k c = true := by simp [charB, h]
theorem charB_more {k : Nat} {c : UInt8} (h0 : ¬ k = 0) (h : (c.toNat : Int) = 95 ∨ 48 ≤ (c.toNat : Int) ∧ (c.toNat : Int) ≤ 57) : charB k c = true := by
  unfold charB
  simp only [Bool.or_eq_true, Bool.and_eq_true, decide_eq_true_eq]
  exact .inr ⟨h0, by omega⟩
theorem charB_first {c : UInt8} (h : letB c.toNat = false) : charB 0 c = false := by simp [charB, h]
theorem charB_not {k : Nat} {c : UInt8} (h : letB c.toNat = false) (h1 : ¬ (c.toNat : Int) = 95) (h2 : (c.toNat : Int) < 48 ∨ 57 < (c.toNat : Int)) : charB k c = false := by
  unfold charB
  rw [h]
  simp only [Bool.false_or, Bool.and_eq_false_iff, decide_eq_false_iff_not]
  exact .inr (by omega)

set_option maxHeartbeats 400000 in
theorem shaped_any (s : ByteArray) (hs : s.size ≤ 140737488355328) (w : World) :
    Calls Tryd.prog 37 #[.string s] w fun e w' => e = .returned (.bool (shapedB s)) ∧ w = w' := by
  go_enter Tryd.func37, Tryd.ntmps37
  go_wp2_with fail
  go_loop [3] (fun i => ∃ k : Nat, k ≤ s.size ∧ i = .int .i64 k ∧ shapedTo s k) (fun i => s.size - (intOf i).toNat)
  case atStart => exact ⟨0, by omega, rfl, fun i h hi => by omega⟩
  case round =>
    obtain ⟨k, hk, rfl, hN⟩ := hrel
    have HN := Lib.hid hN; clear hN
    by_cases hlt : k < s.size
    · cases hl : letB s[k].toNat with
      | true =>
        go_wp2_with (first | (go_at_call 47; refine (letter_any _ _).mono ?_; rintro e w' ⟨rfl, rfl⟩))
        go_round
        case rel => exact ⟨k + 1, by omega, by go_num, shaped_step hlt HN.out (charB_let hl)⟩
        case measure => simp [intOf]; omega
      | false =>
        by_cases h0 : k = 0
        · subst h0
          go_wp2_with (first | (go_at_call 47; refine (letter_any _ _).mono ?_; rintro e w' ⟨rfl, rfl⟩))
          go_ret
          exact ⟨ret_bool (shaped_bad hlt (charB_first hl)).symm, rfl⟩
        · have k0 : ((k : Int) == 0) = false := by simp; omega
          by_cases hm : (s[k].toNat : Int) = 95 ∨ 48 ≤ (s[k].toNat : Int) ∧ (s[k].toNat : Int) ≤ 57
          · have hgood := Lib.hid (charB_more h0 hm)
            clear h0
            go_wp2_with (first | (go_at_call 47; refine (letter_any _ _).mono ?_; rintro e w' ⟨rfl, rfl⟩))
            all_goals first
              | (exfalso; simp at *; omega)
              | (go_round
                 case rel => exact ⟨k + 1, by omega, by go_num, shaped_step hlt HN.out hgood.out⟩
                 case measure => simp [intOf]; omega)
          · have hbad := Lib.hid (charB_not (k := k) hl (by omega) (by omega))
            clear h0
            go_wp2_with (first | (go_at_call 47; refine (letter_any _ _).mono ?_; rintro e w' ⟨rfl, rfl⟩))
            all_goals first
              | (go_ret; exact ⟨ret_bool (shaped_bad hlt hbad.out).symm, rfl⟩)
              | (exfalso; simp at *; omega)
    · obtain rfl : k = s.size := by omega
      go_wp2_with fail
      go_ret
      exact ⟨ret_bool (by rw [shaped_end HN.out]), rfl⟩
end Go.Proofs.YtknnbckmdfnmaaaDoor
