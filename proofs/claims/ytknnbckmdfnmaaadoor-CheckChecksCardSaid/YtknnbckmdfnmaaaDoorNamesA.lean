/- Contracts of the small functions on words: operations, declarations' words, forms. No condition but that an operation lies in its range. -/
import Derived.Test.YtknnbckmdfnmaaaDoorMem
namespace Go.Proofs.YtknnbckmdfnmaaaDoor
open Go.RowKit

def kindN (l : List UInt8) : Nat :=
  if [118, 97, 114] = l then 1 else if [118, 111, 108] = l then 2 else if [109, 117, 116, 101, 120] = l then 3 else if [103, 97, 116, 101] = l then 4 else if [116, 104, 114, 101, 97, 100] = l then 5 else 0
def opWords : List (List UInt8) := [[99, 111, 110, 115, 116], [109, 111, 118, 101], [97, 100, 100], [115, 117, 98], [109, 117, 108], [108, 101, 115, 115], [101, 113, 117, 97, 108], [106, 117, 109, 112], [122, 101, 114, 111], [112, 114, 105, 110, 116], [114, 101, 97, 100], [119, 114, 105, 116, 101], [108, 111, 111, 107], [115, 101, 116], [108, 111, 99, 107], [117, 110, 108, 111, 99, 107], [102, 111, 114, 107], [106, 111, 105, 110], [98, 97, 114, 114, 105, 101, 114], [101, 120, 105, 116]]
def idxN : List (List UInt8) → List UInt8 → Nat → Nat
  | [], _, _ => 0
  | w :: r, l, k => if w = l then k else idxN r l (k + 1)
def opN (l : List UInt8) : Nat := idxN opWords l 1

set_option maxHeartbeats 400000 in
theorem kind_any (s : ByteArray) (w : World) :
    Calls Tryd.prog 50 #[.string s] w fun e w' => e = .returned (.int .i64 (kindN s.toList)) ∧ Below w.heap.size w w' := by
  go_enter Tryd.func50, Tryd.ntmps50
  go_wp2
  go_rounds 6
  all_goals (go_ret; refine ⟨ret_int ?_, by go_grown⟩; simp at *; simp [kindN, *])

set_option maxHeartbeats 1000000 in
set_option maxRecDepth 100000 in
theorem refOp_any (s : ByteArray) (w : World) :
    Calls Tryd.prog 48 #[.string s] w fun e w' => e = .returned (.int .i64 (opN s.toList)) ∧ Below w.heap.size w w' := by
  go_enter Tryd.func48, Tryd.ntmps48
  go_wp2
  go_rounds 21
  all_goals (go_ret; refine ⟨ret_int ?_, by go_grown⟩; simp at *; simp [opN, opWords, idxN, *])
end Go.Proofs.YtknnbckmdfnmaaaDoor
