/- Contract of parse.Op: the number of the operation that a word names, 0 if none. No condition. -/
import Derived.Test.YtknnbckmdfnmaaaDoorNamesB
namespace Go.Proofs.YtknnbckmdfnmaaaDoor
open Go.RowKit

theorem drop_words (k : Nat) (h1 : 1 ≤ k) (h2 : k ≤ 20) : opWords.drop (k - 1) = (wordOf k).toList :: opWords.drop k := by
  have hk : k = 1 ∨ k = 2 ∨ k = 3 ∨ k = 4 ∨ k = 5 ∨ k = 6 ∨ k = 7 ∨ k = 8 ∨ k = 9 ∨ k = 10 ∨ k = 11 ∨ k = 12 ∨ k = 13 ∨ k = 14 ∨ k = 15 ∨ k = 16 ∨ k = 17 ∨ k = 18 ∨ k = 19 ∨ k = 20 := by omega
  rcases hk with rfl | rfl | rfl | rfl | rfl | rfl | rfl | rfl | rfl | rfl | rfl | rfl | rfl | rfl | rfl | rfl | rfl | rfl | rfl | rfl <;> simp [opWords, wordOf]
theorem opN_step (l : List UInt8) (k : Nat) (h1 : 1 ≤ k) (h2 : k ≤ 20) (h : opN l = idxN (opWords.drop (k - 1)) l k) :
    opN l = if (wordOf k).toList == l then k else idxN (opWords.drop k) l (k + 1) := by
  rw [h, drop_words k h1 h2, idxN]
  simp
theorem opN_end (l : List UInt8) (h : opN l = idxN (opWords.drop (21 - 1)) l 21) : opN l = 0 := h

set_option maxHeartbeats 400000 in
theorem parseOp_any (s : ByteArray) (w : World) :
    Calls Tryd.prog 52 #[.string s] w fun e w' => e = .returned (.int .i64 (opN s.toList)) ∧ Below w.heap.size w w' := by
  go_enter Tryd.func52, Tryd.ntmps52
  go_wp2_with fail
  go_loopw [3] (fun op wr => ∃ k : Nat, 1 ≤ k ∧ k ≤ 21 ∧ op = .int .i64 k ∧ opN s.toList = idxN (opWords.drop (k - 1)) s.toList k ∧ Below w.heap.size w wr) (fun op _ => 21 - (intOf op).toNat)
  case atStart => exact ⟨1, by omega, by omega, rfl, rfl, Below.refl _ _⟩
  case round =>
    obtain ⟨k, h1, h2, rfl, hN, hb⟩ := hrel
    have HN := Lib.hid hN; clear hN
    by_cases hk : k ≤ 20
    · have H2 := Lib.hid (opN_step s.toList k h1 hk HN.out); clear HN
      by_cases he : ((wordOf k).toList == s.toList) = true
      all_goals
        go_wp2_with fail
        refine (form_any k h1 hk _).mono ?_
        rintro e w1 ⟨f, rfl, hb1⟩
        go_wp2_with fail
      · go_ret
        refine ⟨ret_int ?_, hb.trans (hb1.mono hb.size)⟩
        rw [H2.out, if_pos he]
      · go_roundw
        case rel => exact ⟨k + 1, by omega, by omega, by go_num, by rw [H2.out, if_neg he]; rfl, hb.trans (hb1.mono hb.size)⟩
        case measure => simp [intOf]; omega
    · obtain rfl : k = 21 := by omega
      go_wp2_with fail
      go_ret
      exact ⟨ret_int (by rw [opN_end _ HN.out]; rfl), hb⟩
end Go.Proofs.YtknnbckmdfnmaaaDoor
