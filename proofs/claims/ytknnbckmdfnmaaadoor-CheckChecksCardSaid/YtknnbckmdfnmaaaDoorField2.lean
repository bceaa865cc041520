/- Contracts of the closures of check.field. Conditions: what they captured lies in memory. -/
import Derived.Test.YtknnbckmdfnmaaaDoorFnMap
import Derived.Test.YtknnbckmdfnmaaaDoorField0
namespace Go.Proofs.YtknnbckmdfnmaaaDoor
open Go.RowKit

def betw (n m : Int) : Bool := decide (0 ≤ n ∧ n < m)
theorem betw_neg {n m : Int} (h : ¬ 0 ≤ n) : betw n m = false := decide_eq_false (fun hh => h hh.1)
set_option maxHeartbeats 400000 in
theorem within_any (g1 g2 : Nat) (n code : Int) (w : World) (h1 : w.cell? ⟨g1, 4, none⟩ = some (.int .i64 n)) (h2 : w.cell? ⟨g2, 0, none⟩ = some (.int .i64 code)) :
    Calls Tryd.prog 45 #[.pointer (some ⟨g1, 0, none⟩), .pointer (some ⟨g2, 0, none⟩)] w fun e w' => e = .returned (.bool (betw n code)) ∧ w = w' := by
  by_cases hn : 0 ≤ n
  · go_enter Tryd.func45, Tryd.ntmps45
    go_wp2
    go_ret
    refine ⟨ret_bool ?_, rfl⟩
    unfold betw
    simp [hn]
  · have hd : decide (0 ≤ n) = false := by simpa using hn
    have HB := Lib.hid (betw_neg (m := code) hn)
    clear hn
    go_enter Tryd.func45, Tryd.ntmps45
    go_wp2
    go_ret
    refine ⟨ret_bool ?_, rfl⟩
    exact HB.out.symm
set_option maxHeartbeats 400000 in
theorem true_any (w : World) : Calls Tryd.prog 46 #[] w fun e w' => e = .returned (.bool true) ∧ w = w' := by
  go_enter Tryd.func46, Tryd.ntmps46
  go_wp2
  go_ret
  exact ⟨rfl, rfl⟩
set_option maxHeartbeats 400000 in
theorem among_any (g1 g2 g3 ga : Nat) (n : Int) (part len cap : Nat) (A : Option Addr) (w : World) (h1 : w.cell? ⟨g1, 4, none⟩ = some (.int .i64 n)) (h2 : w.cell? ⟨g2, 0, none⟩ = some (.pointer (some ⟨ga, 0, none⟩)))
    (h3 : w.cell? ⟨g3, 0, none⟩ = some (.int .i64 (part : Int))) (hp : part < 6) (h4 : w.cell? ⟨ga, part, none⟩ = some (.slice A len cap)) :
    Calls Tryd.prog 44 #[.pointer (some ⟨g1, 0, none⟩), .pointer (some ⟨g2, 0, none⟩), .pointer (some ⟨g3, 0, none⟩)] w fun e w' => e = .returned (.bool (betw n len)) ∧ Below w.heap.size w w' := by
  have hp0 : (0 : Int) ≤ (part : Int) := by omega
  have hp6 : (part : Int) < 6 := by omega
  by_cases hn : 0 ≤ n
  · go_enter Tryd.func44, Tryd.ntmps44
    go_wp2_with fail
    go_quiet (fail)
    go_wp2_with fail
    go_ret
    refine ⟨ret_bool ?_, below_drewN (Below.refl _ _) _⟩
    unfold betw
    simp [hn]
  · have hd : decide (0 ≤ n) = false := by simpa using hn
    have HB := Lib.hid (betw_neg (m := len) hn)
    clear hn
    go_enter Tryd.func44, Tryd.ntmps44
    go_wp2_with fail
    go_quiet (fail)
    go_wp2_with fail
    go_ret
    refine ⟨ret_bool ?_, below_drewN (Below.refl _ _) _⟩
    exact HB.out.symm

/-- what the map holds at an operation -/
def AskOk (p1 p2 pc : Value) (w : World) (b : Nat) (k : Int) (v : Value) : Prop :=
  (k = 1 ∧ v = .func (.func 46) #[] #[]) ∨ ((k = 8 ∨ k = 9) ∧ v = .func (.func 45) #[] #[p1, pc]) ∨
    (∃ g, k ≠ 1 ∧ k ≠ 8 ∧ k ≠ 9 ∧ listOf k ≠ 0 ∧ v = .func (.func 44) #[] #[p1, p2, .pointer (some ⟨g, 0, none⟩)] ∧ w.cell? ⟨g, 0, none⟩ = some (.int .i64 (listOf k : Int)) ∧ g ≠ b)
theorem AskOk.grown {p1 p2 pc : Value} {w w' : World} {b : Nat} {k : Int} {v : Value} {row : Option Nat} (h : AskOk p1 p2 pc w b k v) (hg : w.grownBy w' row) (hr : row = none ∨ row = some b) : AskOk p1 p2 pc w' b k v := by
  rcases h with h | h | ⟨g, h1, h2, h3, h4, h5, h6, h7⟩
  · exact .inl h
  · exact .inr (.inl h)
  · refine .inr (.inr ⟨g, h1, h2, h3, h4, h5, hg.cell h6 (fun e => ?_), h7⟩)
    rcases hr with rfl | rfl
    · cases e
    · exact h7 (by injection e)
structure Asks (p1 p2 pc : Value) (w0 w : World) (b n : Nat) (ks : List Int) : Prop where
  f : ∃ f, FnMap w b n f ∧ (∀ k, (f k).isSome = decide (k ∈ ks)) ∧ ∀ k v, f k = some v → AskOk p1 p2 pc w b k v
  below : Below w0.heap.size w0 w
  hb : w0.heap.size ≤ b
theorem Asks.made (p1 p2 pc : Value) (w : World) : Asks p1 p2 pc w (w.alloc (.map #[] 0)) w.heap.size 0 [] :=
  ⟨⟨_, FnMap.made w, fun k => by simp, fun k v h => by cases h⟩, (Below.refl _ _).alloc (Nat.le_refl _) _, Nat.le_refl _⟩
theorem Asks.lt {p1 p2 pc : Value} {w0 w : World} {b n : Nat} {ks : List Int} (h : Asks p1 p2 pc w0 w b n ks) : b < w.heap.size := by
  obtain ⟨⟨f, h1, h2, h3⟩, h4, h5⟩ := h
  exact h1.lt
theorem Asks.keep {p1 p2 pc : Value} {w0 w : World} {b n : Nat} {ks : List Int} (h : Asks p1 p2 pc w0 w b n ks) {p : Addr} {v : Value} (hc : w0.cell? p = some v) (hp : p.block < w0.heap.size) : w.cell? p = some v := by
  obtain ⟨h1, h4, h5⟩ := h
  rw [h4.cell hp, hc]
theorem Asks.alloc {p1 p2 pc : Value} {w0 w : World} {b n : Nat} {ks : List Int} (h : Asks p1 p2 pc w0 w b n ks) (o : Obj) : Asks p1 p2 pc w0 (w.alloc o) b n ks := by
  obtain ⟨⟨f, h1, h2, h3⟩, h4, h5⟩ := h
  exact ⟨⟨f, h1.alloc o, h2, fun k v hv => (h3 k v hv).grown (World.grownBy_alloc w o none) (.inl rfl)⟩, h4.alloc h4.size _, h5⟩
theorem wpList_ask {ops : Array Oper} {rest : List Oper} {o : Oper} {a : Act} {Q : Exit → Act → World → Prop} {w : World} (hg : o.guard = none) (m x v : Operand) (hop : o.op = Op.insert 89 m x v) (hdst : o.dst = none)
    (p1 p2 pc : Value) (w0 : World) (b n : Nat) (ks : List Int) (hm : a.eval m = .map (some b)) (h : Asks p1 p2 pc w0 w b n ks) (hn : n < maxLen) (k : Int) (u : Value) (hx : a.eval x = .int .i64 k) (hk : (Lit.int .i64 k).wf = true) (hv : a.eval v = u) (hu : AskOk p1 p2 pc w b k u)
    (hK : ∀ w', Asks p1 p2 pc w0 w' b (n + 1) (k :: ks) → wpList Tryd.prog ops Q rest a w') : wpList Tryd.prog ops Q (o :: rest) a w := by
  obtain ⟨⟨f, h1, h2, h3⟩, h4, h5⟩ := h
  refine wpList_ins hg m x v hop hdst b n f hm h1 hn k u hx hk hv fun w' h6 h7 => hK w' ⟨⟨_, h6, fun j => ?_, fun j z hz => ?_⟩, h4.grown h7 h4.size (by intro q hq; injection hq; omega), h5⟩
  · by_cases e : j = k
    · simp [e]
    · rw [if_neg e, h2]; simp [e]
  · by_cases e : j = k
    · subst e
      rw [if_pos rfl] at hz
      injection hz with hz
      subst hz
      exact hu.grown h7 (.inr rfl)
    · rw [if_neg e] at hz
      exact (h3 j z hz).grown h7 (.inr rfl)
theorem Asks.look {p1 p2 pc : Value} {w0 w : World} {b n : Nat} {ks : List Int} (h : Asks p1 p2 pc w0 w b n ks) {k : Int} (hk : (Lit.int .i64 k).wf = true) :
    (k ∉ ks ∧ (Instr.lookup 89 (.map (some b)) (.int .i64 k) true).run Tryd.prog w = .ok (.tuple #[.nilFunc, .bool false]) w) ∨
    (∃ v, AskOk p1 p2 pc w b k v ∧ (Instr.lookup 89 (.map (some b)) (.int .i64 k) true).run Tryd.prog w = .ok (.tuple #[v, .bool true]) w) := by
  obtain ⟨⟨f, h1, h2, h3⟩, h4, h5⟩ := h
  have hl := h1.look hk
  have h2k := h2 k
  cases hf : f k with
  | none =>
    rw [hf] at hl h2k
    exact .inl ⟨by simpa using h2k.symm, hl⟩
  | some v =>
    rw [hf] at hl
    exact .inr ⟨v, h3 k v hf, hl⟩
theorem Asks.split {p1 p2 pc : Value} {w0 w : World} {b n : Nat} {ks : List Int} (h : Asks p1 p2 pc w0 w b n ks) {k : Int} (hk : (Lit.int .i64 k).wf = true) :
    (Hid (k ∉ ks) ∧ (Instr.lookup 89 (.map (some b)) (.int .i64 k) true).run Tryd.prog w = .ok (.tuple #[.nilFunc, .bool false]) w) ∨
    (Hid (k = 1) ∧ (Instr.lookup 89 (.map (some b)) (.int .i64 k) true).run Tryd.prog w = .ok (.tuple #[.func (.func 46) #[] #[], .bool true]) w) ∨
    (Hid (k = 8 ∨ k = 9) ∧ (Instr.lookup 89 (.map (some b)) (.int .i64 k) true).run Tryd.prog w = .ok (.tuple #[.func (.func 45) #[] #[p1, pc], .bool true]) w) ∨
    (∃ g, Hid (k ≠ 1 ∧ k ≠ 8 ∧ k ≠ 9 ∧ listOf k ≠ 0) ∧ w.cell? ⟨g, 0, none⟩ = some (.int .i64 (listOf k : Int)) ∧ (Instr.lookup 89 (.map (some b)) (.int .i64 k) true).run Tryd.prog w = .ok (.tuple #[.func (.func 44) #[] #[p1, p2, .pointer (some ⟨g, 0, none⟩)], .bool true]) w) := by
  rcases h.look hk with ⟨h1, h2⟩ | ⟨v, (⟨hv, rfl⟩ | ⟨hv, rfl⟩ | ⟨g, hv1, hv2, hv3, hv4, rfl, hg, hgb⟩), hl⟩
  · exact .inl ⟨Lib.hid h1, h2⟩
  · exact .inr (.inl ⟨Lib.hid hv, hl⟩)
  · exact .inr (.inr (.inl ⟨Lib.hid hv, hl⟩))
  · exact .inr (.inr (.inr ⟨g, Lib.hid ⟨hv1, hv2, hv3, hv4⟩, hg, hl⟩))
end Go.Proofs.YtknnbckmdfnmaaaDoor
