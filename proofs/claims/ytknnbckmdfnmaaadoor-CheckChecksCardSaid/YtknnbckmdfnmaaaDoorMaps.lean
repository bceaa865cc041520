/- Words for a map from names to numbers that the call itself makes; the six lists of names behind a pointer; what the document's rule on names says of them. No condition. -/
import Derived.Test.YtknnbckmdfnmaaaDoorCounts
import Derived.Test.YtknnbckmdfnmaaaDoorNamesH
import Derived.Maps.OwnOps
import Derived.Maps.Views
import Derived.Maps.Keyed
namespace Go.Proofs.YtknnbckmdfnmaaaDoor
open Go.RowKit Go.WideMaps Go.Maps

theorem klaw : Keyed Tryd.prog 9 := string_keyed Tryd.underlying9
theorem zeroInt (w : World) : (zeroValue 3).run Tryd.prog w = .ok (.int .i64 0) w := by kernel_rfl
/-- block b is a map of at most n entries, from names to numbers -/
def CntMap (w : World) (b n : Nat) (f : List UInt8 → Int) : Prop :=
  ∃ D : DataW Unit, IsMap D ∧ w.ownsMap Tryd.prog 9 (plainElem Tryd.prog 3) b n D ∧ ∀ l, D.atKey (.string l) (.lit (.int .i64 0)) = .lit (.int .i64 (f l))
theorem keyS {s : ByteArray} (hs : s.size ≤ 140737488355328) : keyOf Tryd.prog 9 (.string s) = some (.string s.data.toList) :=
  keyOf_string_mk Tryd.underlying9 (by simp only [maxLen]; omega)
theorem CntMap.made (w : World) : CntMap (w.alloc (.map #[] 0)) w.heap.size 0 (fun _ => 0) :=
  ⟨.map [], ⟨[], rfl⟩, World.ownsMap_made _ _ _ _, fun _ => rfl⟩
theorem CntMap.look {w : World} {b n : Nat} {f : List UInt8 → Int} (h : CntMap w b n f) {s : ByteArray} (hs : s.size ≤ 140737488355328) :
    (Instr.lookup 77 (.map (some b)) (.string s) false).run Tryd.prog w = .ok (.int .i64 (f s.data.toList)) w := by
  obtain ⟨D, hD, hown, hat⟩ := h
  obtain ⟨c, hrun, hc, _⟩ := hown.lookup_int klaw Tryd.underlying77 Tryd.underlying3 (zeroInt _) (keyS hs)
  have e := (hat s.data.toList).symm.trans hc
  have e' : f s.data.toList = c := by simpa using e
  rw [hrun, e']
theorem CntMap.grown {w w' : World} {b n : Nat} {f : List UInt8 → Int} {row : Option Nat} (h : CntMap w b n f) (hg : w.grownBy w' row) (hne : some b ≠ row) : CntMap w' b n f := by
  obtain ⟨D, hD, ⟨es, clock, hb, hr⟩, hat⟩ := h
  have hlt : b < w.heap.size := by
    rcases Nat.lt_or_ge b w.heap.size with hl | hl
    · exact hl
    · rw [Array.getElem?_eq_none hl] at hb; cases hb
  exact ⟨D, hD, ⟨es, clock, (hg.block b hlt hne).trans hb, hr⟩, hat⟩
theorem CntMap.lt {w : World} {b n : Nat} {f : List UInt8 → Int} (h : CntMap w b n f) : b < w.heap.size := by
  obtain ⟨D, hD, ⟨es, clock, hb, hr⟩, hat⟩ := h
  rcases Nat.lt_or_ge b w.heap.size with hl | hl
  · exact hl
  · rw [Array.getElem?_eq_none hl] at hb; cases hb
theorem wpList_cnt {ops : Array Oper} {rest : List Oper} {o : Oper} {a : Act} {Q : Exit → Act → World → Prop} (w : World) (hg : o.guard = none) (m x v : Operand) (hop : o.op = Op.mapUpdate 77 m x v)
    (b n : Nat) (f : List UInt8 → Int) (hm : a.eval m = .map (some b)) (h : CntMap w b n f) (hn : n < maxLen) (s : ByteArray) (c : Int) (hs : s.size ≤ 140737488355328) (hx : a.eval x = .string s) (hv : a.eval v = .int .i64 c) (hc : (Lit.int .i64 c).wf = true)
    (hK : ∀ w', CntMap w' b (n + 1) (fun l => if l = s.data.toList then c else f l) → w.grownBy w' (some b) → wpList Tryd.prog ops Q rest (a.put o.dst undef) w') : wpList Tryd.prog ops Q (o :: rest) a w := by
  obtain ⟨D, hD, hown, hat⟩ := h
  refine wpList_mapUpdate_own w hg m x v _ hop _ _ klaw Tryd.underlying77 _ b n D hm hown hn _ _ _ hx hv (keyS hs) _ [] (plainElem_int Tryd.underlying3 hc) ?_
  intro w' h1 h2
  refine hK w' ⟨_, ?_, h1, fun l => ?_⟩ h2
  · first | exact hD.put _ _ | exact IsMap.put hD _ _ | exact isMap_put hD
  · dsimp only
    by_cases e : l = s.data.toList
    · subst e
      rw [if_pos rfl]
      exact atKey_put_same hD (by first | exact trivial | exact ⟨_, rfl⟩ | simp [WideAt.IsKeyLit]) _ _
    · rw [if_neg e]
      exact (atKey_put_other (fun h => e (by injection h)) _ _).trans (hat l)

/-- six lists of names (the first has none) behind a pointer -/
structure AllIn (w : World) (B ga : Nat) (A : Nat → Option Addr) (c : Nat → Nat) (N : Nat → List ByteArray) : Prop where
  cell : ∀ k, k < 6 → w.cell? ⟨ga, k, none⟩ = some (.slice (A k) (N k).length (c k))
  rd : ∀ k, k < 6 → RdL encS 1 w B (A k) (N k)
  lt : ga < B
theorem AllIn.only {w w' : World} {B ga g : Nat} {A : Nat → Option Addr} {c : Nat → Nat} {N : Nat → List ByteArray} (h : AllIn w B ga A c N) (hg : w.grownBy w' (some g)) (hB : B ≤ g) (hB' : B ≤ w.heap.size) : AllIn w' B ga A c N :=
  ⟨fun k hk => by
    rw [← h.cell k hk]
    exact World.cell?_of_block (hg.block ga (by have := h.lt; omega) (fun e => by injection e with e; have := h.lt; omega)), fun k hk => (h.rd k hk).only hg hB hB', h.lt⟩
theorem AllIn.below {w w' : World} {B ga : Nat} {A : Nat → Option Addr} {c : Nat → Nat} {N : Nat → List ByteArray} (h : AllIn w B ga A c N) (hb : Below B w w') : AllIn w' B ga A c N :=
  ⟨fun k hk => by
    rw [← h.cell k hk]
    exact hb.cell (p := ⟨ga, k, none⟩) h.lt, fun k hk => (h.rd k hk).below hb, h.lt⟩

def scanL (part : Nat) : List ByteArray → Nat → List (List UInt8) → Option (Int × Nat × Nat) × List (List UInt8)
  | [], _, seen => (none, seen)
  | s :: r, i, seen => if nameB s = false then (some (111, part, i), seen) else if s.data.toList ∈ seen then (some (112, part, i), seen) else scanL part r (i + 1) (s.data.toList :: seen)
def scanP (N : Nat → List ByteArray) : Nat → Nat → List (List UInt8) → Option (Int × Nat × Nat)
  | 0, _, _ => none
  | m + 1, part, seen =>
    match scanL part (N part) 0 seen with
    | (some e, _) => some e
    | (none, seen') => scanP N m (part + 1) seen'
def scanV : Option (Int × Nat × Nat) → Value
  | none => spotV 0 0 0 0
  | some (e, p, i) => spotV e p i 0
def inSeen (seen : List (List UInt8)) (l : List UInt8) : Int := if l ∈ seen then 1 else 0
end Go.Proofs.YtknnbckmdfnmaaaDoor
