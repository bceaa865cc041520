/- A map from operations to function values, as check.field makes it; contracts of the closures it holds. No condition. Contracts of the closures of check.field. Conditions: what they captured lies in memory. Contract of check.field: whether an instruction's fields may be. Conditions: the six lists lie behind the pointer; the operation is one of the twenty. Contract of check.placed; what check.thread says, as plain Lean. No condition. Contract of check.thread. Conditions: the thread's lists and the six lists of names lie in memory; the thread has code. What check.Check says, as plain Lean. The plain law of CheckStays: what a program that is taken says of each instruction of its threads. No condition. -/
import Derived.Test.YtgdnpmpnkbnjaaaGreatDoorZD
import Derived.Maps.OwnSet
namespace Go.Proofs.YtgdnpmpnkbnjaaaGreatDoor
open Go.RowKit Go.WideMaps Go.Maps

theorem oplaw : Keyed Tryz.prog 51 := int_keyed Tryz.underlying51
theorem zeroFn (w : World) : (zeroValue 32).run Tryz.prog w = .ok .nilFunc w := by kernel_rfl
def heldR (v : Value) : Option (DataW Value × List MemPlace) := some (.held v, [])
def orHeld (o : Option Value) (z : DataW Value) : DataW Value :=
  match o with
  | some v => .held v
  | none => z
def FnMap (w : World) (b n : Nat) (f : Int → Option Value) : Prop :=
  ∃ D : DataW Value, IsMap D ∧ w.ownsMap Tryz.prog 51 heldR b n D ∧ ∀ k, has D (.int .i64 k) = (f k).isSome ∧ ∀ z, D.atKey (.int .i64 k) z = orHeld (f k) z
theorem FnMap.made (w : World) : FnMap (w.alloc (.map #[] 0)) w.heap.size 0 (fun _ => none) :=
  ⟨.map [], ⟨[], rfl⟩, World.ownsMap_made _ _ _ _, fun _ => ⟨rfl, fun _ => rfl⟩⟩
theorem FnMap.grown {w w' : World} {b n : Nat} {f : Int → Option Value} {row : Option Nat} (h : FnMap w b n f) (hg : w.grownBy w' row) (hne : some b ≠ row) : FnMap w' b n f := by
  obtain ⟨D, hD, hown, hat⟩ := h
  exact ⟨D, hD, hown.kept hg hne, hat⟩
theorem FnMap.alloc {w : World} {b n : Nat} {f : Int → Option Value} (h : FnMap w b n f) (o : Obj) : FnMap (w.alloc o) b n f := h.grown (World.grownBy_alloc w o none) (by simp)
theorem FnMap.lt {w : World} {b n : Nat} {f : Int → Option Value} (h : FnMap w b n f) : b < w.heap.size := by
  obtain ⟨D, hD, hown, hat⟩ := h
  exact hown.lt
theorem FnMap.look {w : World} {b n : Nat} {f : Int → Option Value} (h : FnMap w b n f) {k : Int} (hk : (Lit.int .i64 k).wf = true) :
    (Instr.lookup 131 (.map (some b)) (.int .i64 k) true).run Tryz.prog w = .ok (.tuple #[(f k).getD .nilFunc, .bool (f k).isSome]) w := by
  obtain ⟨D, hD, hown, hat⟩ := h
  obtain ⟨v, ps, hrun, hv⟩ := hown.look_ok oplaw Tryz.underlying131 (zeroFn w) (zd := .held .nilFunc) (zp := []) rfl (keyOf_int_mk Tryz.underlying51 hk)
  rw [hrun, (hat k).1]
  rw [(hat k).2] at hv
  have hv := (Prod.mk.inj (Option.some.inj hv)).1
  cases hf : f k with
  | none => rw [hf] at hv; rw [DataW.held.inj hv]; rfl
  | some u => rw [hf] at hv; rw [DataW.held.inj hv]; rfl
theorem wpList_ins {ops : Array Oper} {rest : List Oper} {o : Oper} {a : Act} {Q : Exit → Act → World → Prop} {w : World} (hg : o.guard = none) (m x v : Operand) (hop : o.op = Op.insert 131 m x v) (hdst : o.dst = none)
    (b n : Nat) (f : Int → Option Value) (hm : a.eval m = .map (some b)) (h : FnMap w b n f) (hn : n < maxLen) (k : Int) (u : Value) (hx : a.eval x = .int .i64 k) (hk : (Lit.int .i64 k).wf = true) (hv : a.eval v = u)
    (hK : ∀ w', FnMap w' b (n + 1) (fun j => if j = k then some u else f j) → w.grownBy w' (some b) → wpList Tryz.prog ops Q rest a w') : wpList Tryz.prog ops Q (o :: rest) a w := by
  obtain ⟨D, hD, hown, hat⟩ := h
  obtain ⟨w', hrun, h1, h2⟩ := hown.update (t := 131) (e := 32) (val := u) (d := .held u) (ps := []) oplaw Tryz.underlying131 hn (keyOf_int_mk Tryz.underlying51 hk) rfl
  refine wpList_plain hg fun K' hK' => ?_
  unfold Oper.wp
  simp [execOp, hop, hm, hx, hv, hrun, Result.andThen, Oper.upon, Act.put, hdst]
  refine hK' _ _ (hK w' ⟨_, ?_, h1, fun j => ⟨?_, fun z => ?_⟩⟩ h2)
  · first | exact hD.put _ _ | exact IsMap.put hD _ _ | exact isMap_put hD
  · dsimp only
    by_cases e : j = k
    · subst e
      rw [if_pos rfl, has_put_same hD (by first | exact trivial | exact ⟨_, rfl⟩ | simp [WideAt.IsKeyLit])]
      rfl
    · rw [if_neg e, has_put_other (fun h => e (by injection h)), (hat j).1]
  · dsimp only
    by_cases e : j = k
    · subst e
      rw [if_pos rfl, atKey_put_same hD (by first | exact trivial | exact ⟨_, rfl⟩ | simp [WideAt.IsKeyLit])]
      rfl
    · rw [if_neg e, atKey_put_other (fun h => e (by injection h)), (hat j).2]

set_option maxHeartbeats 400000 in
theorem of_any (part : Int) (p1 p2 : Value) (w : World) :
    Calls Tryz.prog 67 #[.int .i64 part, p1, p2] w fun e w' => e = .returned (.func (.func 68) #[] #[p1, p2, .pointer (some ⟨w.heap.size, 0, none⟩)]) ∧ w.alloc (.cells #[.int .i64 part] 74) = w' := by
  go_enter Tryz.func67, Tryz.ntmps67
  go_wp2
  go_ret
  exact ⟨rfl, rfl⟩
end Go.Proofs.YtgdnpmpnkbnjaaaGreatDoor
namespace Go.Proofs.YtgdnpmpnkbnjaaaGreatDoor
open Go.RowKit

def betw (n m : Int) : Bool := decide (0 ≤ n ∧ n < m)
theorem betw_neg {n m : Int} (h : ¬ 0 ≤ n) : betw n m = false := decide_eq_false (fun hh => h hh.1)
set_option maxHeartbeats 400000 in
theorem within_any (g1 g2 : Nat) (n code : Int) (w : World) (h1 : w.cell? ⟨g1, 4, none⟩ = some (.int .i64 n)) (h2 : w.cell? ⟨g2, 0, none⟩ = some (.int .i64 code)) :
    Calls Tryz.prog 69 #[.pointer (some ⟨g1, 0, none⟩), .pointer (some ⟨g2, 0, none⟩)] w fun e w' => e = .returned (.bool (betw n code)) ∧ w = w' := by
  by_cases hn : 0 ≤ n
  · go_enter Tryz.func69, Tryz.ntmps69
    go_wp2
    go_ret
    refine ⟨ret_bool ?_, rfl⟩
    unfold betw
    simp [hn]
  · have hd : decide (0 ≤ n) = false := by simpa using hn
    have HB := Lib.hid (betw_neg (m := code) hn)
    clear hn
    go_enter Tryz.func69, Tryz.ntmps69
    go_wp2
    go_ret
    refine ⟨ret_bool ?_, rfl⟩
    exact HB.out.symm
set_option maxHeartbeats 400000 in
theorem true_any (w : World) : Calls Tryz.prog 70 #[] w fun e w' => e = .returned (.bool true) ∧ w = w' := by
  go_enter Tryz.func70, Tryz.ntmps70
  go_wp2
  go_ret
  exact ⟨rfl, rfl⟩
set_option maxHeartbeats 400000 in
theorem among_any (g1 g2 g3 ga : Nat) (n : Int) (part len cap : Nat) (A : Option Addr) (w : World) (h1 : w.cell? ⟨g1, 4, none⟩ = some (.int .i64 n)) (h2 : w.cell? ⟨g2, 0, none⟩ = some (.pointer (some ⟨ga, 0, none⟩)))
    (h3 : w.cell? ⟨g3, 0, none⟩ = some (.int .i64 (part : Int))) (hp : part < 6) (h4 : w.cell? ⟨ga, part, none⟩ = some (.slice A len cap)) :
    Calls Tryz.prog 68 #[.pointer (some ⟨g1, 0, none⟩), .pointer (some ⟨g2, 0, none⟩), .pointer (some ⟨g3, 0, none⟩)] w fun e w' => e = .returned (.bool (betw n len)) ∧ Below w.heap.size w w' := by
  have hp0 : (0 : Int) ≤ (part : Int) := by omega
  have hp6 : (part : Int) < 6 := by omega
  by_cases hn : 0 ≤ n
  · go_enter Tryz.func68, Tryz.ntmps68
    go_wp2_with fail
    go_quiet (fail)
    go_wp2_with fail
    go_ret
    refine ⟨ret_bool ?_, below_drewN (Below.refl _ _) _⟩
    unfold betw
    simp [hn]
  · have hd : decide (0 ≤ n) = false := by simpa using hn
    have HB := Lib.hid (betw_neg (m := len) hn)
    clear hn
    go_enter Tryz.func68, Tryz.ntmps68
    go_wp2_with fail
    go_quiet (fail)
    go_wp2_with fail
    go_ret
    refine ⟨ret_bool ?_, below_drewN (Below.refl _ _) _⟩
    exact HB.out.symm

/-- what the map holds at an operation -/
def AskOk (p1 p2 pc : Value) (w : World) (b : Nat) (k : Int) (v : Value) : Prop :=
  (k = 1 ∧ v = .func (.func 70) #[] #[]) ∨ ((k = 8 ∨ k = 9) ∧ v = .func (.func 69) #[] #[p1, pc]) ∨
    (∃ g, k ≠ 1 ∧ k ≠ 8 ∧ k ≠ 9 ∧ listOf k ≠ 0 ∧ v = .func (.func 68) #[] #[p1, p2, .pointer (some ⟨g, 0, none⟩)] ∧ w.cell? ⟨g, 0, none⟩ = some (.int .i64 (listOf k : Int)) ∧ g ≠ b)
theorem AskOk.grown {p1 p2 pc : Value} {w w' : World} {b : Nat} {k : Int} {v : Value} {row : Option Nat} (h : AskOk p1 p2 pc w b k v) (hg : w.grownBy w' row) (hr : row = none ∨ row = some b) : AskOk p1 p2 pc w' b k v := by
  rcases h with h | h | ⟨g, h1, h2, h3, h4, h5, h6, h7⟩
  · exact .inl h
  · exact .inr (.inl h)
  · refine .inr (.inr ⟨g, h1, h2, h3, h4, h5, hg.cell h6 (fun e => ?_), h7⟩)
    rcases hr with rfl | rfl
    · cases e
    · exact h7 (by injection e)
structure Asks (p1 p2 pc : Value) (w0 w : World) (b n : Nat) (ks : List Int) : Prop where
  f : ∃ f, FnMap w b n f ∧ (∀ k, (f k).isSome = decide (k ∈ ks)) ∧ ∀ k v, f k = some v → AskOk p1 p2 pc w b k v
  below : Below w0.heap.size w0 w
  hb : w0.heap.size ≤ b
theorem Asks.made (p1 p2 pc : Value) (w : World) : Asks p1 p2 pc w (w.alloc (.map #[] 0)) w.heap.size 0 [] :=
  ⟨⟨_, FnMap.made w, fun k => by simp, fun k v h => by cases h⟩, (Below.refl _ _).alloc (Nat.le_refl _) _, Nat.le_refl _⟩
theorem Asks.lt {p1 p2 pc : Value} {w0 w : World} {b n : Nat} {ks : List Int} (h : Asks p1 p2 pc w0 w b n ks) : b < w.heap.size := by
  obtain ⟨⟨f, h1, h2, h3⟩, h4, h5⟩ := h
  exact h1.lt
theorem Asks.keep {p1 p2 pc : Value} {w0 w : World} {b n : Nat} {ks : List Int} (h : Asks p1 p2 pc w0 w b n ks) {p : Addr} {v : Value} (hc : w0.cell? p = some v) (hp : p.block < w0.heap.size) : w.cell? p = some v := by
  obtain ⟨h1, h4, h5⟩ := h
  rw [h4.cell hp, hc]
theorem Asks.alloc {p1 p2 pc : Value} {w0 w : World} {b n : Nat} {ks : List Int} (h : Asks p1 p2 pc w0 w b n ks) (o : Obj) : Asks p1 p2 pc w0 (w.alloc o) b n ks := by
  obtain ⟨⟨f, h1, h2, h3⟩, h4, h5⟩ := h
  exact ⟨⟨f, h1.alloc o, h2, fun k v hv => (h3 k v hv).grown (World.grownBy_alloc w o none) (.inl rfl)⟩, h4.alloc h4.size _, h5⟩
theorem wpList_ask {ops : Array Oper} {rest : List Oper} {o : Oper} {a : Act} {Q : Exit → Act → World → Prop} {w : World} (hg : o.guard = none) (m x v : Operand) (hop : o.op = Op.insert 131 m x v) (hdst : o.dst = none)
    (p1 p2 pc : Value) (w0 : World) (b n : Nat) (ks : List Int) (hm : a.eval m = .map (some b)) (h : Asks p1 p2 pc w0 w b n ks) (hn : n < maxLen) (k : Int) (u : Value) (hx : a.eval x = .int .i64 k) (hk : (Lit.int .i64 k).wf = true) (hv : a.eval v = u) (hu : AskOk p1 p2 pc w b k u)
    (hK : ∀ w', Asks p1 p2 pc w0 w' b (n + 1) (k :: ks) → wpList Tryz.prog ops Q rest a w') : wpList Tryz.prog ops Q (o :: rest) a w := by
  obtain ⟨⟨f, h1, h2, h3⟩, h4, h5⟩ := h
  refine wpList_ins hg m x v hop hdst b n f hm h1 hn k u hx hk hv fun w' h6 h7 => hK w' ⟨⟨_, h6, fun j => ?_, fun j z hz => ?_⟩, h4.grown h7 h4.size (by intro q hq; injection hq; omega), h5⟩
  · by_cases e : j = k
    · simp [e]
    · rw [if_neg e, h2]; simp [e]
  · by_cases e : j = k
    · subst e
      rw [if_pos rfl] at hz
      injection hz with hz
      subst hz
      exact hu.grown h7 (.inr rfl)
    · rw [if_neg e] at hz
      exact (h3 j z hz).grown h7 (.inr rfl)
theorem Asks.look {p1 p2 pc : Value} {w0 w : World} {b n : Nat} {ks : List Int} (h : Asks p1 p2 pc w0 w b n ks) {k : Int} (hk : (Lit.int .i64 k).wf = true) :
    (k ∉ ks ∧ (Instr.lookup 131 (.map (some b)) (.int .i64 k) true).run Tryz.prog w = .ok (.tuple #[.nilFunc, .bool false]) w) ∨
    (∃ v, AskOk p1 p2 pc w b k v ∧ (Instr.lookup 131 (.map (some b)) (.int .i64 k) true).run Tryz.prog w = .ok (.tuple #[v, .bool true]) w) := by
  obtain ⟨⟨f, h1, h2, h3⟩, h4, h5⟩ := h
  have hl := h1.look hk
  have h2k := h2 k
  cases hf : f k with
  | none =>
    rw [hf] at hl h2k
    exact .inl ⟨by simpa using h2k.symm, hl⟩
  | some v =>
    rw [hf] at hl
    exact .inr ⟨v, h3 k v hf, hl⟩
theorem Asks.split {p1 p2 pc : Value} {w0 w : World} {b n : Nat} {ks : List Int} (h : Asks p1 p2 pc w0 w b n ks) {k : Int} (hk : (Lit.int .i64 k).wf = true) :
    (Hid (k ∉ ks) ∧ (Instr.lookup 131 (.map (some b)) (.int .i64 k) true).run Tryz.prog w = .ok (.tuple #[.nilFunc, .bool false]) w) ∨
    (Hid (k = 1) ∧ (Instr.lookup 131 (.map (some b)) (.int .i64 k) true).run Tryz.prog w = .ok (.tuple #[.func (.func 70) #[] #[], .bool true]) w) ∨
    (Hid (k = 8 ∨ k = 9) ∧ (Instr.lookup 131 (.map (some b)) (.int .i64 k) true).run Tryz.prog w = .ok (.tuple #[.func (.func 69) #[] #[p1, pc], .bool true]) w) ∨
    (∃ g, Hid (k ≠ 1 ∧ k ≠ 8 ∧ k ≠ 9 ∧ listOf k ≠ 0) ∧ w.cell? ⟨g, 0, none⟩ = some (.int .i64 (listOf k : Int)) ∧ (Instr.lookup 131 (.map (some b)) (.int .i64 k) true).run Tryz.prog w = .ok (.tuple #[.func (.func 68) #[] #[p1, p2, .pointer (some ⟨g, 0, none⟩)], .bool true]) w) := by
  rcases h.look hk with ⟨h1, h2⟩ | ⟨v, (⟨hv, rfl⟩ | ⟨hv, rfl⟩ | ⟨g, hv1, hv2, hv3, hv4, rfl, hg, hgb⟩), hl⟩
  · exact .inl ⟨Lib.hid h1, h2⟩
  · exact .inr (.inl ⟨Lib.hid hv, hl⟩)
  · exact .inr (.inr (.inl ⟨Lib.hid hv, hl⟩))
  · exact .inr (.inr (.inr ⟨g, Lib.hid ⟨hv1, hv2, hv3, hv4⟩, hg, hl⟩))
end Go.Proofs.YtgdnpmpnkbnjaaaGreatDoor
namespace Go.Proofs.YtgdnpmpnkbnjaaaGreatDoor
open Go.RowKit

theorem listOf_lt (k : Int) : listOf k < 6 := by
  unfold listOf
  repeat' split
  all_goals omega
open Classical in
theorem fieldB_none {x : Ins} {code : Int} {cnt : Nat → Nat} (hr : regsOk x) (h : x.op ∉ ([19, 18, 17, 16, 15, 14, 13, 12, 11, 9, 8, 1] : List Int)) : fieldB x code cnt = decide (x.n = 0) := by
  simp only [List.mem_cons, List.not_mem_nil, or_false, not_or] at h
  unfold fieldB numOk
  have hl : listOf x.op = 0 := by unfold listOf; simp [h]
  rw [if_neg (by omega), if_neg (by omega), if_pos hl]
  simp only [hr, true_and]
open Classical in
theorem fieldB_one {x : Ins} {code : Int} {cnt : Nat → Nat} (hr : regsOk x) (h : x.op = 1) : fieldB x code cnt = true := by
  unfold fieldB numOk
  rw [if_pos h]
  simp only [hr, true_and, decide_true]
open Classical in
theorem fieldB_in {x : Ins} {code : Int} {cnt : Nat → Nat} (hr : regsOk x) (h : x.op = 8 ∨ x.op = 9) : fieldB x code cnt = betw x.n code := by
  unfold fieldB numOk betw
  rw [if_neg (by omega), if_pos h]
  simp only [hr, true_and]
open Classical in
theorem fieldB_of {x : Ins} {code : Int} {cnt : Nat → Nat} (hr : regsOk x) (h : x.op ≠ 1 ∧ x.op ≠ 8 ∧ x.op ≠ 9 ∧ listOf x.op ≠ 0) : fieldB x code cnt = betw x.n (cnt (listOf x.op)) := by
  unfold fieldB numOk betw
  rw [if_neg h.1, if_neg (by omega), if_neg h.2.2.2]
  simp only [hr, true_and]
set_option maxHeartbeats 2000000 in
set_option maxRecDepth 100000 in
theorem field_any (x : Ins) (code : Int) (w : World) (B ga : Nat) (A : Nat → Option Addr) (c : Nat → Nat) (N : Nat → List ByteArray) (hB : B ≤ w.heap.size) (hwf : (Lit.int .i64 x.op).wf = true) (hall : AllIn w B ga A c N) :
    Calls Tryz.prog 61 #[x.val, .int .i64 code, .pointer (some ⟨ga, 0, none⟩)] w fun e w' => e = .returned (.bool (fieldB x code fun k => (N k).length)) ∧ Below w.heap.size w w' := by
  have HA := Lib.hid hall; clear hall
  have HW := Lib.hid hwf; clear hwf
  unfold Ins.val
  go_enter Tryz.func61, Tryz.ntmps61
  go_wp2_with fail
  generalize hW : World.alloc _ _ = W1
  have hb1 : Below w.heap.size w W1 := by subst hW; go_grown
  have q0 : W1.cell? ⟨w.heap.size, 0, none⟩ = some (.int .i64 x.op) := by subst hW; simp [go_sem]
  have q4 : W1.cell? ⟨w.heap.size, 4, none⟩ = some (.int .i64 x.n) := by subst hW; simp [go_sem]
  have q1 : W1.cell? ⟨w.heap.size + 1, 0, none⟩ = some (.int .i64 code) := by subst hW; simp [go_sem]
  have q2 : W1.cell? ⟨w.heap.size + 1 + 1, 0, none⟩ = some (.pointer (some ⟨ga, 0, none⟩)) := by subst hW; simp [go_sem]
  have hs1 : w.heap.size + 1 + 1 + 1 + 1 ≤ W1.heap.size := by subst hW; simp
  clear hW
  go_loopw [23] (fun i wr => ∃ k : Nat, k ≤ 3 ∧ i = .int .i64 k ∧ (∀ j : Nat, j < k → regOk j (x.reg j) (regsN x.op)) ∧ wr = W1) (fun i _ => 3 - (intOf i).toNat)
  case atStart => exact ⟨0, by omega, rfl, by omega, rfl⟩
  case round =>
    obtain ⟨k, hk, rfl, hok, rfl⟩ := hrel
    have HK := Lib.hid hok; clear hok
    by_cases hlt : k < 3
    · have hidx := regs_index x k hlt
      by_cases hr : regOk k (x.reg k) (regsN x.op)
      · have HR := Lib.hid hr
        have r1 : 0 ≤ x.reg k := hr.1
        have r2 : x.reg k < 16 := by have := hr.2.1; omega
        have r3 : (k : Int) < regsN x.op ∨ regsN x.op ≤ (k : Int) ∧ x.reg k = 0 := by
          rcases Int.lt_or_le (k : Int) (regsN x.op) with h | h
          · exact .inl h
          · exact .inr ⟨h, hr.2.2 h⟩
        clear hr
        have hnext : Hid (∀ j : Nat, j < k + 1 → regOk j (x.reg j) (regsN x.op)) := by
          intro j hj
          by_cases e : j = k
          · subst e; exact HR.out
          · exact HK.out j (by omega)
        rcases r3 with h3 | ⟨h3, h4⟩
        · have h3' : decide (regsN x.op ≤ (k : Int)) = false := by simp; omega
          go_wp2_with (go_at_call 66; refine (registers_any _ _).mono ?_; rintro e w' ⟨rfl, rfl⟩)
          go_roundw
          case rel => exact ⟨k + 1, by omega, by go_num, hnext.out, by trivial⟩
          case measure => simp [intOf]; omega
        · have h4' : (x.reg k != 0) = false := by simp [h4]
          clear h4
          go_wp2_with (go_at_call 66; refine (registers_any _ _).mono ?_; rintro e w' ⟨rfl, rfl⟩)
          go_roundw
          case rel => exact ⟨k + 1, by omega, by go_num, hnext.out, by trivial⟩
          case measure => simp [intOf]; omega
      · have hbad := Lib.hid (fieldB_regs (code := code) (cnt := fun k => (N k).length) k hlt hr)
        have r3 : x.reg k < 0 ∨ 0 ≤ x.reg k ∧ 16 ≤ x.reg k ∨ 0 ≤ x.reg k ∧ x.reg k < 16 ∧ regsN x.op ≤ (k : Int) ∧ (x.reg k != 0) = true := by
          unfold regOk at hr
          rcases Int.lt_or_le (x.reg k) 0 with h | h
          · exact .inl h
          · rcases Int.lt_or_le (x.reg k) 16 with h' | h'
            · refine .inr (.inr ⟨h, h', ?_⟩)
              rw [bne_iff_ne]
              omega
            · exact .inr (.inl ⟨h, h'⟩)
        clear hr
        rcases r3 with h3 | ⟨h3, h4⟩ | ⟨h3, h4, h5, h6⟩
        all_goals
          go_wp2_with (go_at_call 66; refine (registers_any _ _).mono ?_; rintro e w' ⟨rfl, rfl⟩)
          go_ret
          exact ⟨ret_bool hbad.out.symm, hb1⟩
    · obtain rfl : k = 3 := by omega
      have HR := Lib.hid (regsOk_of HK.out)
      have hmm := @run_makeMap Tryz.prog
      clear HK hk hlt
      go_wp2_with (first | (go_at_call 67; refine (of_any _ _ _ _).mono ?_; rintro e w' ⟨rfl, rfl⟩) | (refine wpList_ask rfl _ _ _ rfl rfl (.pointer (some ⟨w.heap.size, 0, none⟩)) (.pointer (some ⟨w.heap.size + 1 + 1, 0, none⟩)) (.pointer (some ⟨w.heap.size + 1, 0, none⟩)) wr wr.heap.size _ _ (by rfl) (by first | exact hfm.alloc _ | exact hfm | exact Asks.made _ _ _ _) (by refine Nat.lt_trans (m := 11) ?_ (by decide); omega) _ _ (by rfl) (by decide) (by rfl) (by first | exact .inl ⟨rfl, rfl⟩ | exact .inr (.inl ⟨by decide, rfl⟩) | exact .inr (.inr ⟨_, by decide, by decide, by decide, by decide, rfl, by simp [go_sem, listOf], by have := hfm.lt; omega⟩)) ?_; intro w2 hfm2; have hfm := hfm2; clear hfm2) | (refine wpList_ask rfl _ _ _ rfl rfl (.pointer (some ⟨w.heap.size, 0, none⟩)) (.pointer (some ⟨w.heap.size + 1 + 1, 0, none⟩)) (.pointer (some ⟨w.heap.size + 1, 0, none⟩)) wr wr.heap.size _ _ (by rfl) (by first | exact hfm.alloc _ | exact hfm | exact Asks.made _ _ _ _) (by simp only [maxLen]; omega) _ _ (by rfl) (by decide) (by rfl) (by first | exact .inl ⟨rfl, rfl⟩ | exact .inr (.inl ⟨by decide, rfl⟩) | exact .inr (.inr ⟨_, by decide, by decide, by decide, by decide, rfl, by simp [go_sem, listOf], by have := hfm.lt; omega⟩)) ?_; intro w2 hfm2; have q0 := hfm2.keep q0 (by show w.heap.size < wr.heap.size; omega); have q4 := hfm2.keep q4 (by show w.heap.size < wr.heap.size; omega); have q1 := hfm2.keep q1 (by show w.heap.size + 1 < wr.heap.size; omega); have q2 := hfm2.keep q2 (by show w.heap.size + 1 + 1 < wr.heap.size; omega); have HF := Lib.hid hfm2; rcases hfm2.split HW.out with ⟨hv, hl⟩ | ⟨hv, hl⟩ | ⟨hv, hl⟩ | ⟨g, hv, hg, hl⟩))
      all_goals go_wp2_with (first | (go_at_call 70; refine (true_any _).mono ?_; rintro e w' ⟨rfl, rfl⟩) | (go_at_call 69; refine (within_any _ _ _ _ _ q4 q1).mono ?_; rintro e w' ⟨rfl, rfl⟩) | (go_at_call 68; refine (among_any _ _ _ ga _ _ _ _ _ _ q4 q2 hg (listOf_lt _) ((HA.out.below ((hb1.trans (HF.out.below.mono (by omega))).mono hB)).cell _ (listOf_lt _))).mono ?_; rintro e w' ⟨rfl, hb9⟩))
      · go_ret
        refine ⟨ret_bool ?_, hb1.trans (HF.out.below.mono (by omega))⟩
        rw [fieldB_none HR.out hv.out]
        exact bool_iff (by simp)
      · go_ret
        exact ⟨ret_bool (fieldB_one HR.out hv.out).symm, hb1.trans (HF.out.below.mono (by omega))⟩
      · go_ret
        exact ⟨ret_bool (fieldB_in HR.out hv.out).symm, hb1.trans (HF.out.below.mono (by omega))⟩
      · go_ret
        exact ⟨ret_bool (fieldB_of (cnt := fun k => (N k).length) HR.out hv.out).symm, (hb1.trans (HF.out.below.mono (by omega))).trans (hb9.mono (by have := HF.out.below.size; omega))⟩
end Go.Proofs.YtgdnpmpnkbnjaaaGreatDoor
namespace Go.Proofs.YtgdnpmpnkbnjaaaGreatDoor
open Go.RowKit

def placedB (q : Pla) : Bool := decide ((q.line = 0 ∧ q.col = 0) ∨ (1 ≤ q.line ∧ q.line ≤ 2147483647 ∧ 1 ≤ q.col ∧ q.col ≤ 2147483647))
set_option maxHeartbeats 400000 in
theorem placed_any (q : Pla) (w : World) : Calls Tryz.prog 60 #[q.val] w fun e w' => e = .returned (.bool (placedB q)) ∧ Below w.heap.size w w' := by
  unfold Pla.val
  go_enter Tryz.func60, Tryz.ntmps60
  go_wp2
  all_goals (go_ret; refine ⟨ret_bool ?_, by go_grown⟩)
  all_goals (unfold placedB; refine bool_iff ?_; first | (simp; done) | (simp; omega) | omega)

def scanQ : List Pla → Nat → Option Nat
  | [], _ => none
  | q :: r, i => if placedB q then scanQ r (i + 1) else some i
noncomputable def scanI (code : Int) (cnt : Nat → Nat) : List Ins → Nat → Option (Int × Nat)
  | [], _ => none
  | x :: r, i => if x.op < 1 ∨ 20 < x.op then some (116, i) else if fieldB x code cnt then scanI code cnt r (i + 1) else some (117, i)
def lastOp (l : List Ins) : Int := (l.getD (l.length - 1) ⟨0, 0, 0, 0, 0⟩).op
noncomputable def threadR (t : Thr) (cnt : Nat → Nat) : Int × Nat :=
  if t.places.length ≠ t.code.length then (115, 0) else
  match scanQ t.places 0 with
  | some i => (115, i)
  | none =>
    match scanI t.code.length cnt t.code 0 with
    | some r => r
    | none => if lastOp t.code = 8 ∨ lastOp t.code = 20 then (0, 0) else (118, t.code.length - 1)
def pairV (r : Int × Nat) : Value := .tuple #[.int .i64 r.1, .int .i64 (r.2 : Int)]
theorem ret_pair {r r' : Int × Nat} (h : r = r') : Ending.returned (pairV r) = .returned (pairV r') := by rw [h]
end Go.Proofs.YtgdnpmpnkbnjaaaGreatDoor
namespace Go.Proofs.YtgdnpmpnkbnjaaaGreatDoor
open Go.RowKit

theorem thread_place {t : Thr} {cnt : Nat → Nat} {k : Nat} {x : Pla} (hl : t.places.length = t.code.length) (hs : scanQ t.places 0 = scanQ (t.places.drop k) k) (hx : t.places[k]? = some x) (hp : placedB x = false) : threadR t cnt = (115, k) := by
  unfold threadR
  rw [if_neg (by simpa using hl), hs, drop_at hx, scanQ, hp]
  rfl
theorem thread_code {t : Thr} {cnt : Nat → Nat} (hl : t.places.length = t.code.length) (hs : scanQ t.places 0 = none) {r : Int × Nat} (h : scanI t.code.length cnt t.code 0 = some r) : threadR t cnt = r := by
  unfold threadR
  rw [if_neg (by simpa using hl), hs, h]
theorem thread_end {t : Thr} {cnt : Nat → Nat} (hl : t.places.length = t.code.length) (hs : scanQ t.places 0 = none) (h : scanI t.code.length cnt t.code 0 = none) : threadR t cnt = if lastOp t.code = 8 ∨ lastOp t.code = 20 then (0, 0) else (118, t.code.length - 1) := by
  unfold threadR
  rw [if_neg (by simpa using hl), hs, h]
set_option maxHeartbeats 2000000 in
set_option maxRecDepth 100000 in
theorem thread_any (t : Thr) (w : World) (B ga : Nat) (A : Nat → Option Addr) (c : Nat → Nat) (N : Nat → List ByteArray) (hB : B ≤ w.heap.size) (hall : AllIn w B ga A c N) (hin : t.In w B) (hf : t.Fits) (hc : 1 ≤ t.code.length) (hop : ∀ x ∈ t.code, (Lit.int .i64 x.op).wf = true) :
    Calls Tryz.prog 48 #[t.val, .pointer (some ⟨ga, 0, none⟩)] w fun e w' => e = .returned (pairV (threadR t fun k => (N k).length)) ∧ Below w.heap.size w w' := by
  have HA := Lib.hid hall; clear hall
  have HI := Lib.hid hin; clear hin
  have HF := Lib.hid hf; clear hf
  have HO := Lib.hid hop; clear hop
  have h40 : t.code.length * 40 ≤ 140737488355328 := HF.out.code
  have h16 : t.places.length * 16 ≤ 140737488355328 := HF.out.places
  unfold Thr.val
  by_cases hlen : t.places.length = t.code.length
  · have HL := Lib.hid hlen
    have heq : ((t.places.length : Int) != (t.code.length : Int)) = false := by rw [hlen]; simp
    clear hlen
    go_enter Tryz.func48, Tryz.ntmps48
    go_wp2_with fail
    generalize hW : World.alloc _ _ = W1
    have hb1 : Below w.heap.size w W1 := by subst hW; go_grown
    have q0 : W1.cell? ⟨w.heap.size, 0, none⟩ = some (.string t.name) := by subst hW; simp [go_sem]
    have q1 : W1.cell? ⟨w.heap.size, 1, none⟩ = some (.slice t.Ac t.code.length t.cc) := by subst hW; simp [go_sem]
    have q2 : W1.cell? ⟨w.heap.size, 2, none⟩ = some (.slice t.Ap t.places.length t.cp) := by subst hW; simp [go_sem]
    have hs1 : w.heap.size + 1 ≤ W1.heap.size := by subst hW; simp
    clear hW
    go_loopw [22] (fun i wr => ∃ k : Nat, k ≤ t.places.length ∧ i = .int .i64 k ∧ scanQ t.places 0 = scanQ (t.places.drop k) k ∧ Below W1.heap.size W1 wr) (fun i _ => t.places.length - (intOf i).toNat)
    case atStart => exact ⟨0, by omega, rfl, rfl, Below.refl _ _⟩
    case round =>
      obtain ⟨k, hk, rfl, hsc, hb2⟩ := hrel
      have HSC := Lib.hid hsc; clear hsc
      have hw2 := hb2.size
      have hbw : Below w.heap.size w wr := hb1.trans (hb2.mono (by omega))
      by_cases hlt : k < t.places.length
      · obtain ⟨x, hx0⟩ := get_some hlt
        obtain ⟨g, off, hA, hgB, r0, r1⟩ := (HI.out.below (hbw.mono hB)).places.pla hx0
        have HD := Lib.hid (List.drop_eq_getElem_cons hlt)
        have HX := Lib.hid hx0
        clear hx0
        rw [hA]
        clear hA
        cases hpl : placedB x with
        | false =>
          have hfin : Hid (threadR t (fun k => (N k).length) = (115, k)) := thread_place HL.out HSC.out HX.out hpl
          go_wp2_with (go_at_call 60; refine (placed_any x _).mono ?_; rintro e w' ⟨rfl, hb3⟩; rw [hpl])
          go_ret2
          refine ⟨ret_pair (r := (115, k)) hfin.out.symm, (hbw.alloc (by omega) _).trans (hb3.mono (by simp; omega))⟩
        | true =>
          go_wp2_with (go_at_call 60; refine (placed_any x _).mono ?_; rintro e w' ⟨rfl, hb3⟩; rw [hpl])
          go_roundw
          case rel => exact ⟨k + 1, by omega, by go_num, by rw [HSC.out, drop_at HX.out, scanQ, if_pos hpl], (hb2.alloc (by omega) _).trans (hb3.mono (by simp; omega))⟩
          case measure => simp [intOf]; omega
      · obtain rfl : k = t.places.length := by omega
        have hQ : Hid (scanQ t.places 0 = none) := by
          show _ = _
          rw [HSC.out, List.drop_of_length_le (Nat.le_refl _)]
          rfl
        obtain ⟨wo, rfl⟩ : ∃ x : World, x = wr := ⟨_, rfl⟩
        have q1 : wo.cell? ⟨w.heap.size, 1, none⟩ = some (.slice t.Ac t.code.length t.cc) := (hb2.cell (p := ⟨w.heap.size, 1, none⟩) (by show w.heap.size < _; omega)).trans q1
        have hws : w.heap.size < wo.heap.size := by omega
        go_wp2_with fail
        go_loopw [35] (fun i wq => ∃ k : Nat, k ≤ t.code.length ∧ i = .int .i64 k ∧ scanI t.code.length (fun k => (N k).length) t.code 0 = scanI t.code.length (fun k => (N k).length) (t.code.drop k) k ∧ Below wo.heap.size wo wq) (fun i _ => t.code.length - (intOf i).toNat)
        case atStart => exact ⟨0, by omega, rfl, rfl, Below.refl _ _⟩
        case round =>
          obtain ⟨k, hk, rfl, hsc, hb3⟩ := hrel
          have HSC := Lib.hid hsc; clear hsc
          have hbv : Below w.heap.size w wr := hbw.trans (hb3.mono (by omega))
          have hwr := hb3.size
          have hwv : w.heap.size < wr.heap.size := by omega
          by_cases hlt : k < t.code.length
          · obtain ⟨x, hx0⟩ := get_some hlt
            obtain ⟨g, off, hA, hgB, r0, r1, r2, r3, r4⟩ := (HI.out.below (hbv.mono hB)).code.ins hx0
            have HX := Lib.hid hx0
            have HW := HO.out x (get_mem hx0)
            clear hx0
            have q1 : wr.cell? ⟨w.heap.size, 1, none⟩ = some (.slice t.Ac t.code.length t.cc) := (hb3.cell (p := ⟨w.heap.size, 1, none⟩) hws).trans q1
            rw [hA] at q1 ⊢
            clear hA
            by_cases ho : x.op < 1 ∨ 20 < x.op
            · have hfin : Hid (threadR t (fun k => (N k).length) = (116, k)) := thread_code HL.out hQ.out (by rw [HSC.out, drop_at HX.out, scanI, if_pos ho])
              rcases Int.lt_or_le x.op 1 with h1 | h1
              · clear ho
                go_wp2_with fail
                go_ret2
                exact ⟨ret_pair (r := (116, k)) hfin.out.symm, hbv.alloc (by omega) _⟩
              · have h2 : 20 < x.op := by omega
                clear ho
                go_wp2_with fail
                go_ret2
                exact ⟨ret_pair (r := (116, k)) hfin.out.symm, hbv.alloc (by omega) _⟩
            · have h1 : 1 ≤ x.op := by omega
              have h2 : x.op ≤ 20 := by omega
              have HO2 := Lib.hid ho
              clear ho
              have hbA := Lib.hid hbv
              cases hfb : fieldB x t.code.length (fun k => (N k).length) with
              | false =>
                have hfin : Hid (threadR t (fun k => (N k).length) = (117, k)) := thread_code HL.out hQ.out (by rw [HSC.out, drop_at HX.out, scanI, if_neg HO2.out, hfb]; rfl)
                go_wp2_with (go_at_call 61; refine (field_any x _ _ B ga A c N (by simp; omega) HW ((HA.out.below (hbA.out.mono hB)).below ((Below.refl _ _).alloc (by omega) _))).mono ?_; rintro e w' ⟨rfl, hb4⟩; rw [hfb])
                go_ret2
                exact ⟨ret_pair (r := (117, k)) hfin.out.symm, (hbv.alloc (by omega) _).trans (hb4.mono (by simp; omega))⟩
              | true =>
                go_wp2_with (go_at_call 61; refine (field_any x _ _ B ga A c N (by simp; omega) HW ((HA.out.below (hbA.out.mono hB)).below ((Below.refl _ _).alloc (by omega) _))).mono ?_; rintro e w' ⟨rfl, hb4⟩; rw [hfb])
                go_roundw
                case rel => exact ⟨k + 1, by omega, by go_num, by rw [HSC.out, drop_at HX.out, scanI, if_neg HO2.out, if_pos hfb], (hb3.alloc (by omega) _).trans (hb4.mono (by simp; omega))⟩
                case measure => simp [intOf]; omega
          · obtain rfl : k = t.code.length := by omega
            have hfin := Lib.hid (thread_end (cnt := fun k => (N k).length) HL.out hQ.out (by rw [HSC.out, List.drop_of_length_le (Nat.le_refl _)]; rfl))
            have hlst : t.code.length - 1 < t.code.length := by omega
            obtain ⟨x, hx0⟩ := get_some hlst
            obtain ⟨g, off, hA, hgB, r0, r1, r2, r3, r4⟩ := (HI.out.below (hbv.mono hB)).code.ins hx0
            have hlo : Hid (lastOp t.code = x.op) := by
              show _ = _
              unfold lastOp
              rw [List.getD_eq_getElem?_getD, hx0]
              rfl
            clear hx0
            have q1 : wr.cell? ⟨w.heap.size, 1, none⟩ = some (.slice t.Ac t.code.length t.cc) := (hb3.cell (p := ⟨w.heap.size, 1, none⟩) hws).trans q1
            rw [hA] at q1
            clear hA hk hlt
            go_wp2_with fail
            · go_ret2
              refine ⟨ret_pair (r := (0, 0)) ?_, hbv⟩
              rw [hfin.out, hlo.out]
              simp [*]
            · go_ret2
              refine ⟨?_, hbv⟩
              have e1 : ((t.code.length : Int) - 1) = ((t.code.length - 1 : Nat) : Int) := by omega
              rw [e1]
              refine ret_pair (r := (118, t.code.length - 1)) ?_
              rw [hfin.out, hlo.out]
              simp_all
            · go_ret2
              refine ⟨ret_pair (r := (0, 0)) ?_, hbv⟩
              rw [hfin.out, hlo.out]
              simp_all
  · have HL := Lib.hid hlen
    have hne : ((t.places.length : Int) != (t.code.length : Int)) = true := by rw [bne_iff_ne]; omega
    clear hlen
    go_enter Tryz.func48, Tryz.ntmps48
    go_wp2_with fail
    go_ret2
    refine ⟨ret_pair (r := (115, 0)) ?_, by go_grown⟩
    unfold threadR
    rw [if_pos HL.out]
end Go.Proofs.YtgdnpmpnkbnjaaaGreatDoor
namespace Go.Proofs.YtgdnpmpnkbnjaaaGreatDoor
open Go.RowKit

def scanB : List Nam → Nat → Option Nat
  | [], _ => none
  | b :: r, i => if b.num < 1 ∨ 65535 < b.num then some i else scanB r (i + 1)
noncomputable def scanT (cnt : Nat → Nat) : List Thr → Nat → Nat → Option (Int × Nat × Nat)
  | [], _, _ => none
  | t :: r, i, sum =>
    if t.code.length = 0 ∨ 4096 < t.code.length ∨ 262144 < sum + t.code.length then some (114, i, 0) else
    if (threadR t cnt).1 = 0 then scanT cnt r (i + 1) (sum + t.code.length) else some ((threadR t cnt).1, i, (threadR t cnt).2)
def Prg.cnt (p : Prg) : Nat → Nat := fun k => (p.names k).length
def Prg.part0 (p : Prg) : Nat := cntPart p.vars.length p.vols.length p.locks.length p.bars.length p.threads.length
structure Spot where
  e : Int
  part : Int
  num : Int
  at_ : Int
deriving DecidableEq
def Spot.val (s : Spot) : Value := spotV s.e s.part s.num s.at_
noncomputable def Prg.check (p : Prg) : Spot :=
  if p.part0 ≠ 0 then ⟨110, p.part0, 0, 0⟩ else
  match scanP p.names 6 0 [] with
  | some (e, a, i) => ⟨e, a, i, 0⟩
  | none =>
    match scanB p.bars 0 with
    | some i => ⟨113, 4, i, 0⟩
    | none =>
      match scanT p.cnt p.threads 0 0 with
      | some (e, i, a) => ⟨e, 5, i, a⟩
      | none => ⟨0, 0, 0, 0⟩
section
variable {p : Prg}
theorem check_cnt (h : p.part0 ≠ 0) : p.check = ⟨110, p.part0, 0, 0⟩ := by unfold Prg.check; rw [if_pos h]
theorem check_scan (h : p.part0 = 0) {e : Int} {a i : Nat} (hs : scanP p.names 6 0 [] = some (e, a, i)) : p.check = ⟨e, a, i, 0⟩ := by unfold Prg.check; rw [if_neg (by simpa using h), hs]
theorem check_bar (h : p.part0 = 0) (hs : scanP p.names 6 0 [] = none) {i : Nat} (hb : scanB p.bars 0 = some i) : p.check = ⟨113, 4, i, 0⟩ := by unfold Prg.check; rw [if_neg (by simpa using h), hs, hb]
theorem check_thr (h : p.part0 = 0) (hs : scanP p.names 6 0 [] = none) (hb : scanB p.bars 0 = none) {e : Int} {i a : Nat} (ht : scanT p.cnt p.threads 0 0 = some (e, i, a)) : p.check = ⟨e, 5, i, a⟩ := by
  unfold Prg.check; rw [if_neg (by simpa using h), hs, hb, ht]
theorem check_ok (h : p.part0 = 0) (hs : scanP p.names 6 0 [] = none) (hb : scanB p.bars 0 = none) (ht : scanT p.cnt p.threads 0 0 = none) : p.check = ⟨0, 0, 0, 0⟩ := by
  unfold Prg.check; rw [if_neg (by simpa using h), hs, hb, ht]
end
def Prg.Ops (p : Prg) : Prop := ∀ t ∈ p.threads, ∀ x ∈ t.code, (Lit.int .i64 x.op).wf = true
theorem cntPart_lt {n1 n2 n3 n4 n5 : Nat} (h : cntPart n1 n2 n3 n4 n5 = 0) : n1 ≤ 4096 ∧ n2 ≤ 4096 ∧ n3 ≤ 4096 ∧ n4 ≤ 4096 ∧ 1 ≤ n5 ∧ n5 ≤ 65535 := by
  unfold cntPart at h
  repeat' (split at h)
  all_goals first | omega | (cases h)
theorem GV.more {B B' : Nat} {w : World} (h : GV B w) (hB : B ≤ B') : GV B' w := by
  obtain ⟨h0, h1, h2, h3⟩ := h
  exact ⟨by omega, by omega, h2, h3⟩
theorem scanL_err {part : Nat} : ∀ {l : List ByteArray} {i : Nat} {seen seen' : List (List UInt8)} {e : Int} {a b : Nat}, scanL part l i seen = (some (e, a, b), seen') → e = 111 ∨ e = 112 := by
  intro l
  induction l with
  | nil => intro i seen seen' e a b h; cases h
  | cons s r ih =>
    intro i seen seen' e a b h
    unfold scanL at h
    split at h
    · exact .inl (Prod.mk.inj (Option.some.inj (Prod.mk.inj h).1)).1.symm
    split at h
    · exact .inr (Prod.mk.inj (Option.some.inj (Prod.mk.inj h).1)).1.symm
    · exact ih h
theorem scanP_err {N : Nat → List ByteArray} : ∀ {m part : Nat} {seen : List (List UInt8)} {e : Int} {a b : Nat}, scanP N m part seen = some (e, a, b) → e = 111 ∨ e = 112 := by
  intro m
  induction m with
  | zero => intro part seen e a b h; cases h
  | succ m ih =>
    intro part seen e a b h
    unfold scanP at h
    split at h
    · next x seen' heq =>
      obtain rfl : x = (e, a, b) := Option.some.inj h
      exact scanL_err heq
    · exact ih h
/-- the five lists behind one block -/
def five (A1 A2 A3 A4 A5 : Option Addr) : Nat → Option Addr
  | 1 => A1
  | 2 => A2
  | 3 => A3
  | 4 => A4
  | 5 => A5
  | _ => none
def fiveC (c1 c2 c3 c4 c5 : Nat) : Nat → Nat
  | 1 => c1
  | 2 => c2
  | 3 => c3
  | 4 => c4
  | 5 => c5
  | _ => 0
theorem allIn_of {p : Prg} {w : World} {B ga : Nat} {A1 A2 A3 A4 A5 : Option Addr} {c1 c2 c3 c4 c5 : Nat} (hb : Blk w ga 100 #[ns, .slice A1 p.vars.length c1, .slice A2 p.vols.length c2, .slice A3 p.locks.length c3, .slice A4 p.bars.length c4, .slice A5 p.threads.length c5]) (hg : ga < B)
    (h1 : RdL encS 1 w B A1 (p.names 1)) (h2 : RdL encS 1 w B A2 (p.names 2)) (h3 : RdL encS 1 w B A3 (p.names 3)) (h4 : RdL encS 1 w B A4 (p.names 4)) (h5 : RdL encS 1 w B A5 (p.names 5)) :
    AllIn w B ga (five A1 A2 A3 A4 A5) (fiveC c1 c2 c3 c4 c5) p.names := by
  have hk6 : ∀ k, k < 6 → k = 0 ∨ k = 1 ∨ k = 2 ∨ k = 3 ∨ k = 4 ∨ k = 5 := by omega
  refine ⟨fun k hk => ?_, fun k hk => ?_, hg⟩
  · rw [hb.cell]
    rcases hk6 k hk with rfl | rfl | rfl | rfl | rfl | rfl
    all_goals simp [Prg.names, five, fiveC]
  · rcases hk6 k hk with rfl | rfl | rfl | rfl | rfl | rfl
    · intro hne; exact absurd rfl hne
    · exact h1
    · exact h2
    · exact h3
    · exact h4
    · exact h5
theorem names_size {p : Prg} (hf : p.Fits) : ∀ k, k < 6 → ∀ s ∈ p.names k, s.size ≤ 140737488355328 := by
  have hk6 : ∀ k, k < 6 → k = 0 ∨ k = 1 ∨ k = 2 ∨ k = 3 ∨ k = 4 ∨ k = 5 := by omega
  intro k hk s hs
  rcases hk6 k hk with rfl | rfl | rfl | rfl | rfl | rfl
  · cases hs
  · obtain ⟨x, hx, rfl⟩ := List.mem_map.1 hs; exact hf.nvars x hx
  · obtain ⟨x, hx, rfl⟩ := List.mem_map.1 hs; exact hf.nvols x hx
  · exact hf.nlocks s hs
  · obtain ⟨x, hx, rfl⟩ := List.mem_map.1 hs; exact hf.nbars x hx
  · obtain ⟨x, hx, rfl⟩ := List.mem_map.1 hs; exact (hf.fthreads x hx).name
theorem names_len {p : Prg} (h : p.part0 = 0) : ∀ k, k < 6 → (p.names k).length ≤ 65535 := by
  have hk6 : ∀ k, k < 6 → k = 0 ∨ k = 1 ∨ k = 2 ∨ k = 3 ∨ k = 4 ∨ k = 5 := by omega
  obtain ⟨h1, h2, h3, h4, h5, h6⟩ := cntPart_lt h
  intro k hk
  rcases hk6 k hk with rfl | rfl | rfl | rfl | rfl | rfl
  all_goals simp [Prg.names]
  all_goals omega
end Go.Proofs.YtgdnpmpnkbnjaaaGreatDoor
namespace Go.Proofs.YtgdnpmpnkbnjaaaGreatDoor
open Go.RowKit

theorem scanI_none {code : Int} {cnt : Nat → Nat} : ∀ {l : List Ins} {i : Nat}, scanI code cnt l i = none → ∀ x ∈ l, 1 ≤ x.op ∧ x.op ≤ 20 ∧ fieldB x code cnt = true := by
  intro l
  induction l with
  | nil => intro i h x hx; cases hx
  | cons y r ih =>
    intro i h x hx
    unfold scanI at h
    split at h
    · cases h
    · next ho =>
      split at h
      · next hfb =>
        rcases List.mem_cons.1 hx with rfl | hx
        · exact ⟨by omega, by omega, hfb⟩
        · exact ih h x hx
      · cases h
theorem threadR_zero {t : Thr} {cnt : Nat → Nat} (h : (threadR t cnt).1 = 0) : t.places.length = t.code.length ∧ scanI t.code.length cnt t.code 0 = none ∧ (lastOp t.code = 8 ∨ lastOp t.code = 20) := by
  unfold threadR at h
  split at h
  · exact absurd h (by simp)
  · next hl =>
    split at h
    · exact absurd h (by simp)
    · split at h
      · next r hr =>
        exfalso
        have : ∀ {l : List Ins} {i : Nat} {r : Int × Nat}, scanI t.code.length cnt l i = some r → r.1 ≠ 0 := by
          intro l
          induction l with
          | nil => intro i r h; cases h
          | cons y s ih =>
            intro i r h
            unfold scanI at h
            split at h
            · rw [← Option.some.inj h]; simp
            · split at h
              · exact ih h
              · rw [← Option.some.inj h]; simp
        exact this hr h
      · next hs =>
        split at h
        · next hlast => exact ⟨by omega, hs, hlast⟩
        · exact absurd h (by simp)
theorem scanT_none {cnt : Nat → Nat} : ∀ {l : List Thr} {i sum : Nat}, scanT cnt l i sum = none → ∀ t ∈ l, 1 ≤ t.code.length ∧ t.code.length ≤ 4096 ∧ (threadR t cnt).1 = 0 := by
  intro l
  induction l with
  | nil => intro i sum h t ht; cases ht
  | cons y r ih =>
    intro i sum h t ht
    unfold scanT at h
    split at h
    · cases h
    · next hc =>
      split at h
      · next hz =>
        rcases List.mem_cons.1 ht with rfl | ht
        · exact ⟨by omega, by omega, hz⟩
        · exact ih h t ht
      · cases h
theorem scanT_err {cnt : Nat → Nat} : ∀ {l : List Thr} {i sum : Nat} {e : Int} {a b : Nat}, scanT cnt l i sum = some (e, a, b) → e ≠ 0 := by
  intro l
  induction l with
  | nil => intro i sum e a b h; cases h
  | cons y r ih =>
    intro i sum e a b h
    unfold scanT at h
    split at h
    · rw [← (Prod.mk.inj (Option.some.inj h)).1]; simp
    · split at h
      · exact ih h
      · next hz =>
        rw [← (Prod.mk.inj (Option.some.inj h)).1]
        exact hz
theorem check_good {p : Prg} (h : p.check.e = 0) : p.part0 = 0 ∧ scanP p.names 6 0 [] = none ∧ scanB p.bars 0 = none ∧ scanT p.cnt p.threads 0 0 = none := by
  by_cases h0 : p.part0 = 0
  · refine ⟨h0, ?_⟩
    rcases hs : scanP p.names 6 0 [] with _ | ⟨e, a, i⟩
    · refine ⟨rfl, ?_⟩
      rcases hb : scanB p.bars 0 with _ | i
      · refine ⟨rfl, ?_⟩
        rcases ht : scanT p.cnt p.threads 0 0 with _ | ⟨e, i, a⟩
        · rfl
        · rw [check_thr h0 hs hb ht] at h
          exact absurd h (scanT_err ht)
      · rw [check_bar h0 hs hb] at h
        exact absurd h (by simp)
    · rw [check_scan h0 hs] at h
      have := scanP_err hs
      exfalso
      dsimp only at h
      omega
  · rw [check_cnt h0] at h
    exact absurd h (by simp)
theorem check_zero {p : Prg} (h : p.check.e = 0) : p.check = ⟨0, 0, 0, 0⟩ := by
  obtain ⟨h0, h1, h2, h3⟩ := check_good h
  exact check_ok h0 h1 h2 h3
def regIn (r : Int) : Prop := 0 ≤ r ∧ r ≤ 15
/-- what each instruction of a taken program's thread keeps -/
structure Stay (p : Prg) (t : Thr) (k : Nat) (x : Ins) : Prop where
  op1 : 1 ≤ x.op
  op2 : x.op ≤ 20
  a1 : 0 ≤ x.a
  a2 : x.a ≤ 15
  b1 : 0 ≤ x.b
  b2 : x.b ≤ 15
  c1 : 0 ≤ x.c
  c2 : x.c ≤ 15
  num : listOf x.op ≠ 0 → 0 ≤ x.n ∧ x.n < (p.cnt (listOf x.op) : Int)
  goes : x.op = 8 ∨ x.op = 9 → 0 ≤ x.n ∧ x.n < (t.code.length : Int)
  next_ : x.op ≠ 8 → x.op ≠ 20 → k + 1 < t.code.length
open Classical in
theorem stay_law {p : Prg} (h : p.check.e = 0) {t : Thr} (ht : t ∈ p.threads) {k : Nat} {x : Ins} (hx : t.code[k]? = some x) : Stay p t k x := by
  obtain ⟨_, _, _, h3⟩ := check_good h
  obtain ⟨hc1, hc2, hz⟩ := scanT_none h3 t ht
  obtain ⟨hpl, hs, hlast⟩ := threadR_zero hz
  obtain ⟨ho1, ho2, hfb⟩ := scanI_none hs x (List.mem_of_getElem? hx)
  unfold fieldB at hfb
  obtain ⟨hr, hn⟩ := of_decide_eq_true hfb
  obtain ⟨⟨ra1, ra2, _⟩, ⟨rb1, rb2, _⟩, ⟨rc1, rc2, _⟩⟩ := hr
  refine ⟨ho1, ho2, ra1, ra2, rb1, rb2, rc1, rc2, fun hl => ?_, fun hg => ?_, fun h8 h20 => ?_⟩
  · unfold numOk at hn
    rw [if_neg (by rintro h1; rw [h1] at hl; exact hl (by decide)), if_neg (by rintro (h1 | h1) <;> (rw [h1] at hl; exact hl (by decide))), if_neg hl] at hn
    exact hn
  · unfold numOk at hn
    rw [if_neg (by omega), if_pos hg] at hn
    exact hn
  · have hk : k < t.code.length := (List.getElem?_eq_some_iff.1 hx).1
    rcases Nat.lt_or_ge (k + 1) t.code.length with h1 | h1
    · exact h1
    · exfalso
      have hkk : k = t.code.length - 1 := by omega
      unfold lastOp at hlast
      rw [← hkk, List.getD_eq_getElem?_getD, hx] at hlast
      simp only [Option.getD_some] at hlast
      omega
end Go.Proofs.YtgdnpmpnkbnjaaaGreatDoor
