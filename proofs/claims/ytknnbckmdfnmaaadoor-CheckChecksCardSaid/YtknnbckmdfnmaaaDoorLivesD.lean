/- What Check says of the two programs that abreastlaw11.lives tries. -/
import Derived.Test.YtknnbckmdfnmaaaDoorSmall
namespace Go.Proofs.YtknnbckmdfnmaaaDoor
open Go.RowKit

theorem loop_eq (s : ByteArray) : ∀ n i r, s.size - i = n → ByteArray.toList.loop s i r = r.reverse ++ s.data.toList.drop i := by
  intro n
  induction n with
  | zero =>
    intro i r h
    unfold ByteArray.toList.loop
    rw [if_neg (by omega), List.drop_of_length_le (by rw [Array.length_toList]; show s.size ≤ i; omega), List.append_nil]
  | succ n ih =>
    intro i r h
    have hi : i < s.data.toList.length := by rw [Array.length_toList]; show i < s.size; omega
    unfold ByteArray.toList.loop
    rw [if_pos (by omega), ih (i + 1) _ (by omega), List.drop_eq_getElem_cons hi, List.reverse_cons, List.append_assoc]
    congr 1
    have h1 : s.get! i = s.data.toList[i] := by
      have h2 : i < s.data.size := by rw [Array.length_toList] at hi; exact hi
      show s.data[i]! = _
      rw [getElem!_pos s.data i h2, Array.getElem_toList]
    rw [h1]
    rfl
theorem toList_eq (s : ByteArray) : s.toList = s.data.toList := by
  unfold ByteArray.toList
  rw [loop_eq s _ 0 [] rfl]
  rfl
theorem small_scan (op : Int) (a b t : Nat) : scanP (smallP op a b t).names 6 0 [] = none := by
  have hn : nameB { data := #[116] } = true := by
    unfold nameB
    rw [toList_eq]
    have h1 : shapedB { data := #[116] } = true := by decide
    have h2 : wordB [116] = false := by decide
    rw [h1, h2]
    rfl
  have h : (smallP op a b t).names 5 = [{ data := #[116] }] := rfl
  show scanP (smallP op a b t).names 1 5 [] = none
  rw [scanP, h]
  simp [scanL, hn, scanP]
theorem small_regs (op : Int) (h : op = 20 ∨ op = 10) : regsOk ⟨op, 0, 0, 0, 0⟩ := by
  rcases h with rfl | rfl
  all_goals
    unfold regsOk regOk regsN
    simp
theorem small_field (op : Int) (h : op = 20 ∨ op = 10) (code : Int) (cnt : Nat → Nat) : fieldB ⟨op, 0, 0, 0, 0⟩ code cnt = true := by
  rw [fieldB_none (small_regs op h)]
  · simp
  · rcases h with rfl | rfl <;> decide
theorem small_thread (op : Int) (h : op = 20 ∨ op = 10) (a b : Nat) (cnt : Nat → Nat) : threadR (smallT op a b) cnt = if op = 20 then (0, 0) else (118, 0) := by
  have h1 : (smallT op a b).places.length = (smallT op a b).code.length := rfl
  have h2 : scanQ (smallT op a b).places 0 = none := by show scanQ [⟨1, 1⟩] 0 = none; decide
  rw [thread_end h1 h2]
  · rcases h with rfl | rfl
    · rfl
    · rfl
  · show scanI _ _ [⟨op, 0, 0, 0, 0⟩] 0 = none
    unfold scanI
    rw [small_field op h]
    rcases h with rfl | rfl
    · rfl
    · rfl
theorem small_20 (a b t : Nat) : (smallP 20 a b t).check = ⟨0, 0, 0, 0⟩ := by
  refine check_ok rfl (small_scan 20 a b t) rfl ?_
  show scanT _ [smallT 20 a b] 0 0 = none
  unfold scanT
  rw [small_thread 20 (.inl rfl)]
  rfl
theorem small_10 (a b t : Nat) : (smallP 10 a b t).check = ⟨118, 5, 0, 0⟩ := by
  refine check_thr rfl (small_scan 10 a b t) rfl (e := 118) (i := 0) (a := 0) ?_
  show scanT _ [smallT 10 a b] 0 0 = _
  unfold scanT
  rw [small_thread 10 (.inr rfl)]
  rfl
theorem small_ops (op : Int) (h : op = 20 ∨ op = 10) (a b t : Nat) : (smallP op a b t).Ops := by
  intro x hx y hy
  obtain rfl : x = smallT op a b := by simpa [smallP] using hx
  obtain rfl : y = ⟨op, 0, 0, 0, 0⟩ := by simpa [smallT] using hy
  rcases h with rfl | rfl <;> decide
end Go.Proofs.YtknnbckmdfnmaaaDoor
