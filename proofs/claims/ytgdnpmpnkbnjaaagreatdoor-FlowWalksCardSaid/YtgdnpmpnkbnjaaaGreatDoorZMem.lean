/- Words for memory that all proofs of this seat use: a slice that reads as a list of rows of cells, kept while nothing below a bound changes. No condition. -/
import Derived.Test.YtgdnpmpnkbnjaaaGreatDoorProg
import Derived.WalkKit
import Derived.WalkSpells
import Derived.WalkLawsBesides
import Derived.Handy
import Derived.Lib.Hide
import Derived.Maps.AppendAt
import Derived.Deep.AppendLies
import Derived.Deep.QuietTactic
import Derived.BigQuiet
import Derived.RegionTactic
import Derived.Deep.Draws
import Derived.Deep.WholeRow
namespace Go.Proofs.YtgdnpmpnkbnjaaaGreatDoor
open Go.RowKit

theorem ret_bool {a b : Bool} (h : a = b) : Ending.returned (.bool a) = .returned (.bool b) := by rw [h]
theorem ret_int {k : IntKind} {a b : Int} (h : a = b) : Ending.returned (.int k a) = .returned (.int k b) := by rw [h]
theorem bool_eq {a b : Bool} (h : (a = true) = (b = true)) : a = b := by cases a <;> cases b <;> simp_all
theorem bool_iff {a : Bool} {p : Prop} [Decidable p] (h : a = true ↔ p) : a = decide p := by
  by_cases hp : p
  · simp [h.2 hp, hp]
  · have : ¬ a = true := fun e => hp (h.1 e)
    simp [hp, Bool.eq_false_iff.2 this]

/-- slice address A reads as the rows l, each of 'size' cells, in blocks below B -/
def RdL {α : Type} (enc : α → List Value) (size : Nat) (w : World) (B : Nat) (A : Option Addr) (l : List α) : Prop :=
  l ≠ [] → ∃ g off, A = some ⟨g, off, none⟩ ∧ g < B ∧ ∀ k x, l[k]? = some x → ∀ j u, (enc x)[j]? = some u → w.cell? ⟨g, off + k * size + j, none⟩ = some u

section
variable {α : Type} {enc : α → List Value} {size : Nat} {w w' : World} {B B' : Nat} {A : Option Addr} {l : List α}
theorem RdL.keep (h : RdL enc size w B A l) (hk : ∀ p : Addr, p.block < B → w'.cell? p = w.cell? p) : RdL enc size w' B A l := fun hn => by
  obtain ⟨g, off, e, hg, hc⟩ := h hn
  exact ⟨g, off, e, hg, fun k x hx j u hu => (hk _ hg).trans (hc k x hx j u hu)⟩
theorem RdL.below (h : RdL enc size w B A l) (hb : Below B w w') : RdL enc size w' B A l := h.keep fun _ hp => hb.cell hp
theorem RdL.more (h : RdL enc size w B A l) (hB : B ≤ B') : RdL enc size w B' A l := fun hn => by
  obtain ⟨g, off, e, hg, hc⟩ := h hn
  exact ⟨g, off, e, by omega, hc⟩
theorem RdL.nil_ : RdL enc size w B A [] := fun h => absurd rfl h
theorem RdL.at_ (h : RdL enc size w B A l) {k : Nat} {x : α} (hk : l[k]? = some x) : ∃ g off, A = some ⟨g, off, none⟩ ∧ g < B ∧ ∀ j u, (enc x)[j]? = some u → w.cell? ⟨g, off + k * size + j, none⟩ = some u := by
  obtain ⟨g, off, e, hg, hc⟩ := h (fun e => by subst e; simp at hk)
  exact ⟨g, off, e, hg, fun j u hu => hc k x hk j u hu⟩
end
theorem get_some {α : Type} {l : List α} {k : Nat} (h : k < l.length) : ∃ x, l[k]? = some x := ⟨l[k], List.getElem?_eq_getElem h⟩

/-- a whole array or struct stored into the block that was made last -/
theorem wpList_store_new {P : Program} {ops : Array Oper} {rest : List Oper} {o : Oper} {a : Act} {Q : Exit → Act → World → Prop} (hgd : o.guard = none) (hd : o.dst = none) (t : TypeId) (x y : Operand) (ho : o.op = .store t x y)
    (W : World) (c c' : Array Value) (hx : a.eval x = .pointer (some ⟨W.heap.size, 0, none⟩)) (hy : a.eval y = .agg c') (hi : (P.info? t).map (·.size) = some c'.size) (hs : c.size = c'.size) (h1 : c'.all (·.oneCell') = true)
    (h : wpList P ops Q rest a (W.alloc (.cells c' t))) : wpList P ops Q (o :: rest) a (W.alloc (.cells c t)) := by
  refine wpList_plain hgd fun K hK => ?_
  unfold Oper.wp execOp
  simp only [ho, hx, hy]
  have := run_storeAt_new (P := P) W t c c' hi hs h1
  simp only [Sem.run_bind, Sem.run_pure, Result.andThen, this, Oper.upon, Act.put, hd]
  exact hK _ _ h
end Go.Proofs.YtgdnpmpnkbnjaaaGreatDoor
