/- Contract of check.placed; what check.thread says, as plain Lean. No condition. -/
import Derived.Test.YtknnbckmdfnmaaaDoorField
namespace Go.Proofs.YtknnbckmdfnmaaaDoor
open Go.RowKit

def placedB (q : Pla) : Bool := decide ((q.line = 0 ∧ q.col = 0) ∨ (1 ≤ q.line ∧ q.line ≤ 2147483647 ∧ 1 ≤ q.col ∧ q.col ≤ 2147483647))
set_option maxHeartbeats 400000 in
theorem placed_any (q : Pla) (w : World) : Calls Tryd.prog 35 #[q.val] w fun e w' => e = .returned (.bool (placedB q)) ∧ Below w.heap.size w w' := by
  unfold Pla.val
  go_enter Tryd.func35, Tryd.ntmps35
  go_wp2
  all_goals (go_ret; refine ⟨ret_bool ?_, by go_grown⟩)
  all_goals (unfold placedB; refine bool_iff ?_; first | (simp; done) | (simp; omega) | omega)

def scanQ : List Pla → Nat → Option Nat
  | [], _ => none
  | q :: r, i => if placedB q then scanQ r (i + 1) else some i
noncomputable def scanI (code : Int) (cnt : Nat → Nat) : List Ins → Nat → Option (Int × Nat)
  | [], _ => none
  | x :: r, i => if x.op < 1 ∨ 20 < x.op then some (116, i) else if fieldB x code cnt then scanI code cnt r (i + 1) else some (117, i)
def lastOp (l : List Ins) : Int := (l.getD (l.length - 1) ⟨0, 0, 0, 0, 0⟩).op
noncomputable def threadR (t : Thr) (cnt : Nat → Nat) : Int × Nat :=
  if t.places.length ≠ t.code.length then (115, 0) else
  match scanQ t.places 0 with
  | some i => (115, i)
  | none =>
    match scanI t.code.length cnt t.code 0 with
    | some r => r
    | none => if lastOp t.code = 8 ∨ lastOp t.code = 20 then (0, 0) else (118, t.code.length - 1)
def pairV (r : Int × Nat) : Value := .tuple #[.int .i64 r.1, .int .i64 (r.2 : Int)]
theorem ret_pair {r r' : Int × Nat} (h : r = r') : Ending.returned (pairV r) = .returned (pairV r') := by rw [h]
end Go.Proofs.YtknnbckmdfnmaaaDoor
