/- Contracts of parse.Form (the word of an operation in its range) and parse.Op. The first theorems differ in one number each: they were printed by a small program. Contract of parse.Op: the number of the operation that a word names, 0 if none. No condition. -/
import Derived.Test.YtgdnpmpnkbnjaaaGreatDoorZNamesA
import Derived.Great.Ranges
namespace Go.Proofs.YtgdnpmpnkbnjaaaGreatDoor
open Go.RowKit

def wordOf (k : Nat) : ByteArray := ⟨((opWords.getD (k - 1) [])).toArray⟩
def wordCells : Array Value := #[(.string ⟨#[]⟩), (.string ⟨#[99, 111, 110, 115, 116]⟩), (.string ⟨#[109, 111, 118, 101]⟩), (.string ⟨#[97, 100, 100]⟩), (.string ⟨#[115, 117, 98]⟩), (.string ⟨#[109, 117, 108]⟩), (.string ⟨#[108, 101, 115, 115]⟩), (.string ⟨#[101, 113, 117, 97, 108]⟩), (.string ⟨#[106, 117, 109, 112]⟩), (.string ⟨#[122, 101, 114, 111]⟩), (.string ⟨#[112, 114, 105, 110, 116]⟩), (.string ⟨#[114, 101, 97, 100]⟩), (.string ⟨#[119, 114, 105, 116, 101]⟩), (.string ⟨#[108, 111, 111, 107]⟩), (.string ⟨#[115, 101, 116]⟩), (.string ⟨#[108, 111, 99, 107]⟩), (.string ⟨#[117, 110, 108, 111, 99, 107]⟩), (.string ⟨#[102, 111, 114, 107]⟩), (.string ⟨#[106, 111, 105, 110]⟩), (.string ⟨#[98, 97, 114, 114, 105, 101, 114]⟩), (.string ⟨#[101, 120, 105, 116]⟩)]
def wordParts : List (Nat × Value) := [(0, (.string ⟨#[]⟩)), (1, (.string ⟨#[99, 111, 110, 115, 116]⟩)), (2, (.string ⟨#[109, 111, 118, 101]⟩)), (3, (.string ⟨#[97, 100, 100]⟩)), (4, (.string ⟨#[115, 117, 98]⟩)), (5, (.string ⟨#[109, 117, 108]⟩)), (6, (.string ⟨#[108, 101, 115, 115]⟩)), (7, (.string ⟨#[101, 113, 117, 97, 108]⟩)), (8, (.string ⟨#[106, 117, 109, 112]⟩)), (9, (.string ⟨#[122, 101, 114, 111]⟩)), (10, (.string ⟨#[112, 114, 105, 110, 116]⟩)), (11, (.string ⟨#[114, 101, 97, 100]⟩)), (12, (.string ⟨#[119, 114, 105, 116, 101]⟩)), (13, (.string ⟨#[108, 111, 111, 107]⟩)), (14, (.string ⟨#[115, 101, 116]⟩)), (15, (.string ⟨#[108, 111, 99, 107]⟩)), (16, (.string ⟨#[117, 110, 108, 111, 99, 107]⟩)), (17, (.string ⟨#[102, 111, 114, 107]⟩)), (18, (.string ⟨#[106, 111, 105, 110]⟩)), (19, (.string ⟨#[98, 97, 114, 114, 105, 101, 114]⟩)), (20, (.string ⟨#[101, 120, 105, 116]⟩))]
theorem built_words : Tryz.prog.built 167 wordParts = some wordCells := by kernel_rfl
theorem size_words : (Tryz.prog.info? 167).map (·.size) = some wordCells.size := by kernel_rfl
theorem one_words : wordCells.all (·.oneCell') = true := by kernel_rfl

theorem words_at (k : Nat) (h1 : 1 ≤ k) (h2 : k ≤ 20) : wordCells[k]? = some (.string (wordOf k)) := by
  have hk : k = 1 ∨ k = 2 ∨ k = 3 ∨ k = 4 ∨ k = 5 ∨ k = 6 ∨ k = 7 ∨ k = 8 ∨ k = 9 ∨ k = 10 ∨ k = 11 ∨ k = 12 ∨ k = 13 ∨ k = 14 ∨ k = 15 ∨ k = 16 ∨ k = 17 ∨ k = 18 ∨ k = 19 ∨ k = 20 := by omega
  rcases hk with rfl | rfl | rfl | rfl | rfl | rfl | rfl | rfl | rfl | rfl | rfl | rfl | rfl | rfl | rfl | rfl | rfl | rfl | rfl | rfl <;> rfl
theorem words_cell (w : World) (k : Nat) (h1 : 1 ≤ k) (h2 : k ≤ 20) : (w.alloc (.cells wordCells 167)).cell? ⟨w.heap.size, k, none⟩ = some (.string (wordOf k)) := by
  rw [cell_of_row _ _ _ _ _ _ (heap_alloc_new w _)]
  exact words_at k h1 h2

set_option maxHeartbeats 1000000 in
set_option maxRecDepth 100000 in
theorem form_any (k : Nat) (h1 : 1 ≤ k) (h2 : k ≤ 20) (w : World) :
    Calls Tryz.prog 92 #[.int .i64 (k : Int)] w fun e w' => ∃ f, e = .returned (.tuple #[.string (wordOf k), .string f]) ∧ Below w.heap.size w w' := by
  have hcell := words_cell w k h1 h2
  go_enter Tryz.func92, Tryz.ntmps92
  go_wp2_with (first | (refine Go.Great.wpList_buildTo rfl 167 _ rfl (some 6) rfl wordCells built_words ?_) | (refine wpList_store_new rfl rfl 167 _ _ rfl _ _ wordCells (by rfl) (by rfl) size_words (by simp [wordCells]) one_words ?_))
  all_goals (go_ret2; exact ⟨_, rfl, by go_grown⟩)
end Go.Proofs.YtgdnpmpnkbnjaaaGreatDoor
namespace Go.Proofs.YtgdnpmpnkbnjaaaGreatDoor
open Go.RowKit

theorem drop_words (k : Nat) (h1 : 1 ≤ k) (h2 : k ≤ 20) : opWords.drop (k - 1) = (wordOf k).toList :: opWords.drop k := by
  have hk : k = 1 ∨ k = 2 ∨ k = 3 ∨ k = 4 ∨ k = 5 ∨ k = 6 ∨ k = 7 ∨ k = 8 ∨ k = 9 ∨ k = 10 ∨ k = 11 ∨ k = 12 ∨ k = 13 ∨ k = 14 ∨ k = 15 ∨ k = 16 ∨ k = 17 ∨ k = 18 ∨ k = 19 ∨ k = 20 := by omega
  rcases hk with rfl | rfl | rfl | rfl | rfl | rfl | rfl | rfl | rfl | rfl | rfl | rfl | rfl | rfl | rfl | rfl | rfl | rfl | rfl | rfl <;> simp [opWords, wordOf]
theorem opN_step (l : List UInt8) (k : Nat) (h1 : 1 ≤ k) (h2 : k ≤ 20) (h : opN l = idxN (opWords.drop (k - 1)) l k) :
    opN l = if (wordOf k).toList == l then k else idxN (opWords.drop k) l (k + 1) := by
  rw [h, drop_words k h1 h2, idxN]
  simp
theorem opN_end (l : List UInt8) (h : opN l = idxN (opWords.drop (21 - 1)) l 21) : opN l = 0 := h

set_option maxHeartbeats 400000 in
theorem parseOp_any (s : ByteArray) (w : World) :
    Calls Tryz.prog 82 #[.string s] w fun e w' => e = .returned (.int .i64 (opN s.toList)) ∧ Below w.heap.size w w' := by
  go_enter Tryz.func82, Tryz.ntmps82
  go_wp2_with fail
  go_loopw [3] (fun op wr => ∃ k : Nat, 1 ≤ k ∧ k ≤ 21 ∧ op = .int .i64 k ∧ opN s.toList = idxN (opWords.drop (k - 1)) s.toList k ∧ Below w.heap.size w wr) (fun op _ => 21 - (intOf op).toNat)
  case atStart => exact ⟨1, by omega, by omega, rfl, rfl, Below.refl _ _⟩
  case round =>
    obtain ⟨k, h1, h2, rfl, hN, hb⟩ := hrel
    have HN := Lib.hid hN; clear hN
    by_cases hk : k ≤ 20
    · have H2 := Lib.hid (opN_step s.toList k h1 hk HN.out); clear HN
      by_cases he : ((wordOf k).toList == s.toList) = true
      all_goals
        go_wp2_with fail
        refine (form_any k h1 hk _).mono ?_
        rintro e w1 ⟨f, rfl, hb1⟩
        go_wp2_with fail
      · go_ret
        refine ⟨ret_int ?_, hb.trans (hb1.mono hb.size)⟩
        rw [H2.out, if_pos he]
      · go_roundw
        case rel => exact ⟨k + 1, by omega, by omega, by go_num, by rw [H2.out, if_neg he]; rfl, hb.trans (hb1.mono hb.size)⟩
        case measure => simp [intOf]; omega
    · obtain rfl : k = 21 := by omega
      go_wp2_with fail
      go_ret
      exact ⟨ret_int (by rw [opN_end _ HN.out]; rfl), hb⟩
end Go.Proofs.YtgdnpmpnkbnjaaaGreatDoor
