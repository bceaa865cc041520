/- What Find answers, as plain Lean. -/
import Derived.Test.YtknnbckmdfnmaaaDoorNameFn2
namespace Go.Proofs.YtknnbckmdfnmaaaDoor
open Go.RowKit

/-- where a name stands in one list -/
def findL (s : ByteArray) : List ByteArray → Nat → Option Nat
  | [], _ => none
  | x :: r, i => if x.toList == s.toList then some i else findL s r (i + 1)
def findP (N : Nat → List ByteArray) (s : ByteArray) : Nat → Nat → Option (Nat × Nat)
  | 0, _ => none
  | m + 1, part =>
    match findL s (N part) 0 with
    | some i => some (part, i)
    | none => findP N s m (part + 1)
def findV : Option (Nat × Nat) → Value
  | none => .tuple #[.int .i64 0, .int .i64 0, .bool false]
  | some (a, i) => .tuple #[.int .i64 (a : Int), .int .i64 (i : Int), .bool true]
theorem ret_find {r r' : Option (Nat × Nat)} (h : r = r') : Ending.returned (findV r) = .returned (findV r') := by rw [h]
theorem findL_at {s x : ByteArray} {l : List ByteArray} {k : Nat} (hx : l[k]? = some x) (h : findL s l 0 = findL s (l.drop k) k) : findL s l 0 = if x.toList == s.toList then some k else findL s (l.drop (k + 1)) (k + 1) := by
  rw [h, drop_at hx, findL]
theorem findP_hit {N : Nat → List ByteArray} {s : ByteArray} {a k i m : Nat} (h : findP N s m a = findP N s (m - (k - a)) k) (hk1 : k - a < m) (hl : findL s (N k) 0 = some i) : findP N s m a = some (k, i) := by
  obtain ⟨j, hj⟩ : ∃ j, m - (k - a) = j + 1 := ⟨m - (k - a) - 1, by omega⟩
  rw [h, hj, findP, hl]
theorem findP_miss {N : Nat → List ByteArray} {s : ByteArray} {a k m : Nat} (h : findP N s m a = findP N s (m - (k - a)) k) (ha : a ≤ k) (hk1 : k - a < m) (hl : findL s (N k) 0 = none) : findP N s m a = findP N s (m - (k + 1 - a)) (k + 1) := by
  obtain ⟨j, hj⟩ : ∃ j, m - (k - a) = j + 1 := ⟨m - (k - a) - 1, by omega⟩
  rw [h, hj, findP, hl, show m - (k + 1 - a) = j from by omega]
theorem find_zero (p : Prg) (s : ByteArray) : findP p.names s 6 0 = findP p.names s 5 1 := rfl
end Go.Proofs.YtknnbckmdfnmaaaDoor
