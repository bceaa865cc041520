/- Contracts of parse.Form (the word of an operation in its range) and parse.Op. The first theorems differ in one number each: they were printed by a small program. -/
import Derived.Test.YtknnbckmdfnmaaaDoorNamesA
import Derived.Great.Ranges
namespace Go.Proofs.YtknnbckmdfnmaaaDoor
open Go.RowKit

def wordOf (k : Nat) : ByteArray := ⟨((opWords.getD (k - 1) [])).toArray⟩
def wordCells : Array Value := #[(.string ⟨#[]⟩), (.string ⟨#[99, 111, 110, 115, 116]⟩), (.string ⟨#[109, 111, 118, 101]⟩), (.string ⟨#[97, 100, 100]⟩), (.string ⟨#[115, 117, 98]⟩), (.string ⟨#[109, 117, 108]⟩), (.string ⟨#[108, 101, 115, 115]⟩), (.string ⟨#[101, 113, 117, 97, 108]⟩), (.string ⟨#[106, 117, 109, 112]⟩), (.string ⟨#[122, 101, 114, 111]⟩), (.string ⟨#[112, 114, 105, 110, 116]⟩), (.string ⟨#[114, 101, 97, 100]⟩), (.string ⟨#[119, 114, 105, 116, 101]⟩), (.string ⟨#[108, 111, 111, 107]⟩), (.string ⟨#[115, 101, 116]⟩), (.string ⟨#[108, 111, 99, 107]⟩), (.string ⟨#[117, 110, 108, 111, 99, 107]⟩), (.string ⟨#[102, 111, 114, 107]⟩), (.string ⟨#[106, 111, 105, 110]⟩), (.string ⟨#[98, 97, 114, 114, 105, 101, 114]⟩), (.string ⟨#[101, 120, 105, 116]⟩)]
def wordParts : List (Nat × Value) := [(0, (.string ⟨#[]⟩)), (1, (.string ⟨#[99, 111, 110, 115, 116]⟩)), (2, (.string ⟨#[109, 111, 118, 101]⟩)), (3, (.string ⟨#[97, 100, 100]⟩)), (4, (.string ⟨#[115, 117, 98]⟩)), (5, (.string ⟨#[109, 117, 108]⟩)), (6, (.string ⟨#[108, 101, 115, 115]⟩)), (7, (.string ⟨#[101, 113, 117, 97, 108]⟩)), (8, (.string ⟨#[106, 117, 109, 112]⟩)), (9, (.string ⟨#[122, 101, 114, 111]⟩)), (10, (.string ⟨#[112, 114, 105, 110, 116]⟩)), (11, (.string ⟨#[114, 101, 97, 100]⟩)), (12, (.string ⟨#[119, 114, 105, 116, 101]⟩)), (13, (.string ⟨#[108, 111, 111, 107]⟩)), (14, (.string ⟨#[115, 101, 116]⟩)), (15, (.string ⟨#[108, 111, 99, 107]⟩)), (16, (.string ⟨#[117, 110, 108, 111, 99, 107]⟩)), (17, (.string ⟨#[102, 111, 114, 107]⟩)), (18, (.string ⟨#[106, 111, 105, 110]⟩)), (19, (.string ⟨#[98, 97, 114, 114, 105, 101, 114]⟩)), (20, (.string ⟨#[101, 120, 105, 116]⟩))]
theorem built_words : Tryd.prog.built 111 wordParts = some wordCells := by kernel_rfl
theorem size_words : (Tryd.prog.info? 111).map (·.size) = some wordCells.size := by kernel_rfl
theorem one_words : wordCells.all (·.oneCell') = true := by kernel_rfl

theorem words_at (k : Nat) (h1 : 1 ≤ k) (h2 : k ≤ 20) : wordCells[k]? = some (.string (wordOf k)) := by
  have hk : k = 1 ∨ k = 2 ∨ k = 3 ∨ k = 4 ∨ k = 5 ∨ k = 6 ∨ k = 7 ∨ k = 8 ∨ k = 9 ∨ k = 10 ∨ k = 11 ∨ k = 12 ∨ k = 13 ∨ k = 14 ∨ k = 15 ∨ k = 16 ∨ k = 17 ∨ k = 18 ∨ k = 19 ∨ k = 20 := by omega
  rcases hk with rfl | rfl | rfl | rfl | rfl | rfl | rfl | rfl | rfl | rfl | rfl | rfl | rfl | rfl | rfl | rfl | rfl | rfl | rfl | rfl <;> rfl
theorem words_cell (w : World) (k : Nat) (h1 : 1 ≤ k) (h2 : k ≤ 20) : (w.alloc (.cells wordCells 111)).cell? ⟨w.heap.size, k, none⟩ = some (.string (wordOf k)) := by
  rw [cell_of_row _ _ _ _ _ _ (heap_alloc_new w _)]
  exact words_at k h1 h2

set_option maxHeartbeats 1000000 in
set_option maxRecDepth 100000 in
theorem form_any (k : Nat) (h1 : 1 ≤ k) (h2 : k ≤ 20) (w : World) :
    Calls Tryd.prog 58 #[.int .i64 (k : Int)] w fun e w' => ∃ f, e = .returned (.tuple #[.string (wordOf k), .string f]) ∧ Below w.heap.size w w' := by
  have hcell := words_cell w k h1 h2
  go_enter Tryd.func58, Tryd.ntmps58
  go_wp2_with (first | (refine Go.Great.wpList_buildTo rfl 111 _ rfl (some 6) rfl wordCells built_words ?_) | (refine wpList_store_new rfl rfl 111 _ _ rfl _ _ wordCells (by rfl) (by rfl) size_words (by simp [wordCells]) one_words ?_))
  all_goals (go_ret2; exact ⟨_, rfl, by go_grown⟩)
end Go.Proofs.YtknnbckmdfnmaaaDoor
