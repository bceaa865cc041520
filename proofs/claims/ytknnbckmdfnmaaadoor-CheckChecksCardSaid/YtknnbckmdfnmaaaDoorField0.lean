/- What check.field asks of an instruction's fields, and the contract of check.registers. (check.field: whether an instruction's fields may be. The contract of check.field itself is in a later text.) No condition. -/
import Derived.Test.YtknnbckmdfnmaaaDoorCalled
namespace Go.Proofs.YtknnbckmdfnmaaaDoor
open Go.RowKit

def regsN (op : Int) : Int := if op = 3 ∨ op = 4 ∨ op = 5 ∨ op = 6 ∨ op = 7 then 3 else if op = 2 then 2 else if op = 1 ∨ op = 9 ∨ op = 10 ∨ op = 11 ∨ op = 12 ∨ op = 13 ∨ op = 14 then 1 else 0
set_option maxHeartbeats 400000 in
theorem registers_any (op : Int) (w : World) : Calls Tryd.prog 42 #[.int .i64 op] w fun e w' => e = .returned (.int .i64 (regsN op)) ∧ w = w' := by
  go_enter Tryd.func42, Tryd.ntmps42
  go_wp2
  all_goals (go_ret; refine ⟨?_, rfl⟩; simp at *; unfold regsN; simp [*])

def regOk (i r n : Int) : Prop := 0 ≤ r ∧ r ≤ 15 ∧ (n ≤ i → r = 0)
def regsOk (x : Ins) : Prop := regOk 0 x.a (regsN x.op) ∧ regOk 1 x.b (regsN x.op) ∧ regOk 2 x.c (regsN x.op)
/-- which list an operation's N names (0: another matter) -/
def listOf (op : Int) : Nat := if op = 11 ∨ op = 12 then 1 else if op = 13 ∨ op = 14 then 2 else if op = 15 ∨ op = 16 then 3 else if op = 17 ∨ op = 18 then 5 else if op = 19 then 4 else 0
def numOk (x : Ins) (code : Int) (cnt : Nat → Nat) : Prop :=
  if x.op = 1 then True else if x.op = 8 ∨ x.op = 9 then 0 ≤ x.n ∧ x.n < code else if listOf x.op = 0 then x.n = 0 else 0 ≤ x.n ∧ x.n < (cnt (listOf x.op) : Int)
open Classical in
noncomputable def fieldB (x : Ins) (code : Int) (cnt : Nat → Nat) : Bool := decide (regsOk x ∧ numOk x code cnt)

def Ins.reg (x : Ins) : Nat → Int
  | 0 => x.a
  | 1 => x.b
  | _ => x.c
theorem regs_index (x : Ins) (k : Nat) (hk : k < 3) (w : World) : (Instr.index 86 (.agg #[.int .i64 x.a, .int .i64 x.b, .int .i64 x.c]) (.int .i64 (k : Int))).run Tryd.prog w = .ok (.int .i64 (x.reg k)) w := by
  have h : k = 0 ∨ k = 1 ∨ k = 2 := by omega
  rcases h with rfl | rfl | rfl
  · show (Instr.index 86 (.agg #[.int .i64 x.a, .int .i64 x.b, .int .i64 x.c]) (.int .i64 0)).run Tryd.prog w = .ok (.int .i64 x.a) w
    kernel_rfl
  · show (Instr.index 86 (.agg #[.int .i64 x.a, .int .i64 x.b, .int .i64 x.c]) (.int .i64 1)).run Tryd.prog w = .ok (.int .i64 x.b) w
    kernel_rfl
  · show (Instr.index 86 (.agg #[.int .i64 x.a, .int .i64 x.b, .int .i64 x.c]) (.int .i64 2)).run Tryd.prog w = .ok (.int .i64 x.c) w
    kernel_rfl
theorem regsOk_of {x : Ins} (h : ∀ j : Nat, j < 3 → regOk j (x.reg j) (regsN x.op)) : regsOk x := ⟨h 0 (by omega), h 1 (by omega), h 2 (by omega)⟩
theorem regsOk_at {x : Ins} (h : regsOk x) (j : Nat) (hj : j < 3) : regOk j (x.reg j) (regsN x.op) := by
  have e : j = 0 ∨ j = 1 ∨ j = 2 := by omega
  rcases e with rfl | rfl | rfl
  · exact h.1
  · exact h.2.1
  · exact h.2.2
open Classical in
theorem fieldB_regs {x : Ins} {code : Int} {cnt : Nat → Nat} (j : Nat) (hj : j < 3) (h : ¬ regOk j (x.reg j) (regsN x.op)) : fieldB x code cnt = false := by
  unfold fieldB
  exact decide_eq_false (fun hh => h (regsOk_at hh.1 j hj))

end Go.Proofs.YtknnbckmdfnmaaaDoor
