/- A map from operations to function values, as check.field makes it; contracts of the closures it holds. No condition. -/
import Derived.Test.YtknnbckmdfnmaaaDoorCalled
import Derived.Maps.OwnSet
namespace Go.Proofs.YtknnbckmdfnmaaaDoor
open Go.RowKit Go.WideMaps Go.Maps

theorem oplaw : Keyed Tryd.prog 43 := int_keyed Tryd.underlying43
theorem zeroFn (w : World) : (zeroValue 48).run Tryd.prog w = .ok .nilFunc w := by kernel_rfl
def heldR (v : Value) : Option (DataW Value × List MemPlace) := some (.held v, [])
def orHeld (o : Option Value) (z : DataW Value) : DataW Value :=
  match o with
  | some v => .held v
  | none => z
def FnMap (w : World) (b n : Nat) (f : Int → Option Value) : Prop :=
  ∃ D : DataW Value, IsMap D ∧ w.ownsMap Tryd.prog 43 heldR b n D ∧ ∀ k, has D (.int .i64 k) = (f k).isSome ∧ ∀ z, D.atKey (.int .i64 k) z = orHeld (f k) z
theorem FnMap.made (w : World) : FnMap (w.alloc (.map #[] 0)) w.heap.size 0 (fun _ => none) :=
  ⟨.map [], ⟨[], rfl⟩, World.ownsMap_made _ _ _ _, fun _ => ⟨rfl, fun _ => rfl⟩⟩
theorem FnMap.grown {w w' : World} {b n : Nat} {f : Int → Option Value} {row : Option Nat} (h : FnMap w b n f) (hg : w.grownBy w' row) (hne : some b ≠ row) : FnMap w' b n f := by
  obtain ⟨D, hD, hown, hat⟩ := h
  exact ⟨D, hD, hown.kept hg hne, hat⟩
theorem FnMap.alloc {w : World} {b n : Nat} {f : Int → Option Value} (h : FnMap w b n f) (o : Obj) : FnMap (w.alloc o) b n f := h.grown (World.grownBy_alloc w o none) (by simp)
theorem FnMap.lt {w : World} {b n : Nat} {f : Int → Option Value} (h : FnMap w b n f) : b < w.heap.size := by
  obtain ⟨D, hD, hown, hat⟩ := h
  exact hown.lt
theorem FnMap.look {w : World} {b n : Nat} {f : Int → Option Value} (h : FnMap w b n f) {k : Int} (hk : (Lit.int .i64 k).wf = true) :
    (Instr.lookup 89 (.map (some b)) (.int .i64 k) true).run Tryd.prog w = .ok (.tuple #[(f k).getD .nilFunc, .bool (f k).isSome]) w := by
  obtain ⟨D, hD, hown, hat⟩ := h
  obtain ⟨v, ps, hrun, hv⟩ := hown.look_ok oplaw Tryd.underlying89 (zeroFn w) (zd := .held .nilFunc) (zp := []) rfl (keyOf_int_mk Tryd.underlying43 hk)
  rw [hrun, (hat k).1]
  rw [(hat k).2] at hv
  have hv := (Prod.mk.inj (Option.some.inj hv)).1
  cases hf : f k with
  | none => rw [hf] at hv; rw [DataW.held.inj hv]; rfl
  | some u => rw [hf] at hv; rw [DataW.held.inj hv]; rfl
theorem wpList_ins {ops : Array Oper} {rest : List Oper} {o : Oper} {a : Act} {Q : Exit → Act → World → Prop} {w : World} (hg : o.guard = none) (m x v : Operand) (hop : o.op = Op.insert 89 m x v) (hdst : o.dst = none)
    (b n : Nat) (f : Int → Option Value) (hm : a.eval m = .map (some b)) (h : FnMap w b n f) (hn : n < maxLen) (k : Int) (u : Value) (hx : a.eval x = .int .i64 k) (hk : (Lit.int .i64 k).wf = true) (hv : a.eval v = u)
    (hK : ∀ w', FnMap w' b (n + 1) (fun j => if j = k then some u else f j) → w.grownBy w' (some b) → wpList Tryd.prog ops Q rest a w') : wpList Tryd.prog ops Q (o :: rest) a w := by
  obtain ⟨D, hD, hown, hat⟩ := h
  obtain ⟨w', hrun, h1, h2⟩ := hown.update (t := 89) (e := 48) (val := u) (d := .held u) (ps := []) oplaw Tryd.underlying89 hn (keyOf_int_mk Tryd.underlying43 hk) rfl
  refine wpList_plain hg fun K' hK' => ?_
  unfold Oper.wp
  simp [execOp, hop, hm, hx, hv, hrun, Result.andThen, Oper.upon, Act.put, hdst]
  refine hK' _ _ (hK w' ⟨_, ?_, h1, fun j => ⟨?_, fun z => ?_⟩⟩ h2)
  · first | exact hD.put _ _ | exact IsMap.put hD _ _ | exact isMap_put hD
  · dsimp only
    by_cases e : j = k
    · subst e
      rw [if_pos rfl, has_put_same hD (by first | exact trivial | exact ⟨_, rfl⟩ | simp [WideAt.IsKeyLit])]
      rfl
    · rw [if_neg e, has_put_other (fun h => e (by injection h)), (hat j).1]
  · dsimp only
    by_cases e : j = k
    · subst e
      rw [if_pos rfl, atKey_put_same hD (by first | exact trivial | exact ⟨_, rfl⟩ | simp [WideAt.IsKeyLit])]
      rfl
    · rw [if_neg e, atKey_put_other (fun h => e (by injection h)), (hat j).2]

set_option maxHeartbeats 400000 in
theorem of_any (part : Int) (p1 p2 : Value) (w : World) :
    Calls Tryd.prog 43 #[.int .i64 part, p1, p2] w fun e w' => e = .returned (.func (.func 44) #[] #[p1, p2, .pointer (some ⟨w.heap.size, 0, none⟩)]) ∧ w.alloc (.cells #[.int .i64 part] 30) = w' := by
  go_enter Tryd.func43, Tryd.ntmps43
  go_wp2
  go_ret
  exact ⟨rfl, rfl⟩
end Go.Proofs.YtknnbckmdfnmaaaDoor
