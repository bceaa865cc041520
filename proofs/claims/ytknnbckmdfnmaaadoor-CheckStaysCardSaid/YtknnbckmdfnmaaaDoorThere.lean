/- Contract of abreastlaw11.there, where what the instruction touches is there: true. -/
import Derived.Test.YtknnbckmdfnmaaaDoorStaysD
import Derived.Test.YtknnbckmdfnmaaaDoorShape
namespace Go.Proofs.YtknnbckmdfnmaaaDoor
open Go.RowKit

def Shp.cnt (s : Shp) : Nat → Nat
  | 1 => s.vars
  | 2 => s.vols
  | 3 => s.locks
  | 4 => s.parties.length
  | 5 => s.threads
  | _ => 0
theorem there_any (x : Ins) (s : Shp) (A : Option Addr) (c : Nat) (w : World) (h1 : 1 ≤ x.op) (h2 : x.op ≤ 20) (hn : listOf x.op ≠ 0 → 0 ≤ x.n ∧ x.n < (s.cnt (listOf x.op) : Int)) :
    Calls Tryd.prog 18 #[x.val, s.val (.slice A s.parties.length c)] w fun e w' => e = .returned (.bool true) ∧ Below w.heap.size w w' := by
  obtain ⟨op, xa, xb, xc, n⟩ := x
  obtain ⟨nt, nv, no, nl, ps⟩ := s
  unfold Ins.val Shp.val
  dsimp only at h1 h2 hn ⊢
  have hk : (op = 11 ∨ op = 12 ∨ op = 13 ∨ op = 14 ∨ op = 15 ∨ op = 16 ∨ op = 17 ∨ op = 18 ∨ op = 19) ∨ (op = 1 ∨ op = 2 ∨ op = 3 ∨ op = 4 ∨ op = 5 ∨ op = 6 ∨ op = 7 ∨ op = 8 ∨ op = 9 ∨ op = 10 ∨ op = 20) := by omega
  rcases hk with hk | hk
  · have hn0 : 0 ≤ n := by
      refine (hn ?_).1
      rcases hk with rfl | rfl | rfl | rfl | rfl | rfl | rfl | rfl | rfl <;> decide
    rcases hk with rfl | rfl | rfl | rfl | rfl | rfl | rfl | rfl | rfl
    all_goals
      have hn1 := (hn (by decide)).2
      simp [listOf, Shp.cnt] at hn1
      clear hn h1 h2
      go_enter Tryd.func18, Tryd.ntmps18
      go_wp2
      go_ret
      exact ⟨ret_bool (by simp), by go_grown⟩
  · clear hn
    rcases hk with rfl | rfl | rfl | rfl | rfl | rfl | rfl | rfl | rfl | rfl | rfl
    all_goals
      clear h1 h2
      go_enter Tryd.func18, Tryd.ntmps18
      go_wp2
      go_ret
      exact ⟨ret_bool (by simp), by go_grown⟩
end Go.Proofs.YtknnbckmdfnmaaaDoor
