/- How many threads touch a variable, counted by flow.Alone. Plain, but for the two rows of numbers. No condition. -/
import Derived.Test.YtgdnpmpnkbnjaaaGreatDoorZAloneD
import Derived.Test.YtgdnpmpnkbnjaaaGreatDoorZH
import Derived.Test.YtgdnpmpnkbnjaaaGreatDoorZK
namespace Go.Proofs.YtgdnpmpnkbnjaaaGreatDoor
open Go.RowKit

noncomputable def useB (code : List Ins) (v : Nat) : Bool := hasB (touchL code 0) v || hasB (touchL code 1) v
noncomputable def wrB (code : List Ins) (v : Nat) : Bool := hasB (touchL code 1) v
noncomputable def cntU (p : Prg) (pre : List Nat) (v : Nat) : Nat := (pre.filter fun t : Nat => useB (p.codeAt (t : Int)) v).length
noncomputable def cntW (p : Prg) (pre : List Nat) (v : Nat) : Nat := (pre.filter fun t : Nat => wrB (p.codeAt (t : Int)) v).length
theorem cnt_snoc {f : Nat → Bool} (pre : List Nat) (t : Nat) : ((pre ++ [t]).filter f).length = (pre.filter f).length + if f t then 1 else 0 := by
  rw [List.filter_append, List.length_append]
  congr 1
  by_cases h : f t = true
  · simp [h]
  · simp [h]
theorem cntU_snoc (p : Prg) (pre : List Nat) (t v : Nat) : cntU p (pre ++ [t]) v = cntU p pre v + if useB (p.codeAt (t : Int)) v then 1 else 0 := cnt_snoc pre t
theorem cntW_snoc (p : Prg) (pre : List Nat) (t v : Nat) : cntW p (pre ++ [t]) v = cntW p pre v + if wrB (p.codeAt (t : Int)) v then 1 else 0 := cnt_snoc pre t
theorem cntU_le (p : Prg) (pre : List Nat) (v : Nat) : cntU p pre v ≤ pre.length := List.length_filter_le _ _
theorem cntW_le (p : Prg) (pre : List Nat) (v : Nat) : cntW p pre v ≤ pre.length := List.length_filter_le _ _
noncomputable def aloneB (p : Prg) (v : Nat) : Bool := decide (cntU p (listM p.startM) v ≤ 1) || decide (cntW p (listM p.startM) v = 0)
noncomputable def aloneL (p : Prg) : List Nat := if askedN p 0 = 0 then (List.range p.vars.length).filter (aloneB p) else []
def vals {S : Nat} (l : List {x : Nat // S.testBit x = true}) : List Nat := l.map Subtype.val
theorem vals_snoc {S : Nat} (l : List {x : Nat // S.testBit x = true}) (x : {x : Nat // S.testBit x = true}) : vals (l ++ [x]) = vals l ++ [x.1] := by simp [vals]
theorem vals_len {S : Nat} (l : List {x : Nat // S.testBit x = true}) : (vals l).length = l.length := by simp [vals]
theorem namedL_len {code : List Ins} {op : Int} (hs : SmallN code) (ho : listOf op ≠ 0) : (namedL code op).length ≤ 4611686018427387904 := by
  unfold namedL
  rw [listM_bound _ 1048576 fun k hk => by
    obtain ⟨i, x, hx, hxo, _, rfl⟩ := (namedM_bit _ _ _ _).1 hk
    have := hs i x hx (by rw [hxo]; exact ho)
    omega]
  exact Nat.le_trans (List.length_filter_le _ _) (by simp)
theorem touchL_len (code : List Ins) (_ : OkCode code) (hs : SmallN code) (k : Nat) (hk : k < 9 := by omega) : (touchL code k).length ≤ 4611686018427387904 := by
  unfold touchL
  refine namedL_len hs ?_
  have h9 : k = 0 ∨ k = 1 ∨ k = 2 ∨ k = 3 ∨ k = 4 ∨ k = 5 ∨ k = 6 ∨ k = 7 ∨ k = 8 := by omega
  rcases h9 with rfl | rfl | rfl | rfl | rfl | rfl | rfl | rfl | rfl <;> decide
/-- a row of numbers -/
def arr (f : Nat → Nat) (n : Nat) : Array Value := ((List.range n).map fun v => Value.int .i64 (f v : Int)).toArray
theorem arr_get (f : Nat → Nat) {n v : Nat} (h : v < n) : (arr f n)[v]? = some (.int .i64 (f v : Int)) := by
  simp [arr, h]
def mid (f g : Nat → Nat) (v0 : Nat) (v : Nat) : Nat := if v < v0 then g v else f v
theorem mid_zero (f g : Nat → Nat) : mid f g 0 = f := by
  funext v
  simp [mid]
theorem arr_congr {f g : Nat → Nat} {n : Nat} (h : ∀ v, v < n → f v = g v) : arr f n = arr g n := by
  unfold arr
  congr 1
  apply List.map_congr_left
  intro v hv
  rw [h v (List.mem_range.1 hv)]
theorem mid_end (f g : Nat → Nat) (n : Nat) : arr (mid f g n) n = arr g n := arr_congr fun _ hv => if_pos hv
theorem mid_at (f g : Nat → Nat) (v : Nat) : mid f g v v = f v := if_neg (by omega)
theorem arr_set (f g : Nat → Nat) {n v : Nat} (h : v < n) : (arr (mid f g v) n).setIfInBounds v (.int .i64 (g v : Int)) = arr (mid f g (v + 1)) n := by
  apply Array.ext_getElem?
  intro j
  rcases Nat.lt_or_ge j n with hj | hj
  · rw [arr_get _ hj]
    by_cases e : v = j
    · subst e
      rw [Array.getElem?_setIfInBounds_self_of_lt (by simp [arr]; exact h)]
      unfold mid
      rw [if_pos (by omega)]
    · rw [Array.getElem?_setIfInBounds_ne e, arr_get _ hj]
      unfold mid
      by_cases h2 : j < v
      · rw [if_pos h2, if_pos (by omega)]
      · rw [if_neg h2, if_neg (by omega)]
  · rw [Array.getElem?_eq_none (by simp [arr]; omega), Array.getElem?_eq_none (by simp [arr]; omega)]
theorem arr_same (f g : Nat → Nat) {n v : Nat} (h : g v = f v) : arr (mid f g v) n = arr (mid f g (v + 1)) n := arr_congr fun j _ => by
  unfold mid
  by_cases h2 : j < v
  · rw [if_pos h2, if_pos (by omega)]
  · rw [if_neg h2]
    by_cases e : j = v
    · subst e
      rw [if_pos (by omega), h]
    · rw [if_neg (by omega)]
theorem Tab.keepB {P : Nat → Prop} {W W' : World} (hk : KeepB P W W') (hp : P 0) (h : Tab W) : Tab W' := fun j hj => by
  have h1 := h j hj
  exact (World.cell?_of_block (hk.same _ hp (World.block_lt_of_cell? W _ h1))).trans h1
section
variable {w1 W W' : World} {n b5 b6 g5 g6 : Nat} {Z Z' : Array Value}
theorem Two.lower (h : Two w1 W n b5 b6 g5 g6 Z Z') (hb : Below W.heap.size W W') : Two w1 W' n b5 b6 g5 g6 Z Z' :=
  ⟨h.below.trans (hb.mono h.below.size), h.x5.below hb h.x5.lt, h.x6.below hb h.x6.lt, h.y5.below hb h.y5.lt, h.y6.below hb h.y6.lt, h.nb, h.ng, h.ge⟩
theorem Blk.cells_ne {g : Nat} {t : TypeId} {cs : Array Value} {row : Option Nat} (h : Blk W g t cs) (hr : ∀ r, row = some r → ∃ o : Obj, W.heap[r]? = some o ∧ o.isCells = false) : some g ≠ row := by
  intro e
  obtain ⟨o, ho, hc⟩ := hr g e.symm
  have h' : W.heap[g]? = some (.cells cs t (0, 0)) := h
  rw [h'] at ho
  obtain rfl := Option.some.inj ho
  cases hc
theorem Two.grown {row : Option Nat} (h : Two w1 W n b5 b6 g5 g6 Z Z') (hg : W.grownBy W' row) (hr : ∀ r, row = some r → w1.heap.size ≤ r ∧ ∃ o : Obj, W.heap[r]? = some o ∧ o.isCells = false) : Two w1 W' n b5 b6 g5 g6 Z Z' :=
  ⟨h.below.grown hg h.below.size (fun k e => (hr k e).1), h.x5.grown hg (h.x5.cells_ne fun r e => (hr r e).2), h.x6.grown hg (h.x6.cells_ne fun r e => (hr r e).2), h.y5.grown hg (h.y5.cells_ne fun r e => (hr r e).2), h.y6.grown hg (h.y6.cells_ne fun r e => (hr r e).2), h.nb, h.ng, h.ge⟩
theorem Two.b5g5 (h : Two w1 W n b5 b6 g5 g6 Z Z') : b5 ≠ g5 := Blk.ne_ h.x5 h.y5 (by decide)
theorem Two.b5g6 (h : Two w1 W n b5 b6 g5 g6 Z Z') : b5 ≠ g6 := Blk.ne_ h.x5 h.y6 (by decide)
theorem Two.b6g5 (h : Two w1 W n b5 b6 g5 g6 Z Z') : b6 ≠ g5 := Blk.ne_ h.x6 h.y5 (by decide)
theorem Two.b6g6 (h : Two w1 W n b5 b6 g5 g6 Z Z') : b6 ≠ g6 := Blk.ne_ h.x6 h.y6 (by decide)
theorem Two.set5 (h : Two w1 W n b5 b6 g5 g6 Z Z') (v : Nat) (u : Value) : Two w1 (W.setCell ⟨g5, v, none⟩ u) n b5 b6 g5 g6 (Z.setIfInBounds v u) Z' :=
  ⟨h.below.setCell (h.ge.2.2.1) _, h.x5.far h.b5g5 _, h.x6.far h.b6g5 _, h.y5.set_ v u, h.y6.far (fun e => h.ng e.symm) _, h.nb, h.ng, h.ge⟩
theorem Two.set6 (h : Two w1 W n b5 b6 g5 g6 Z Z') (v : Nat) (u : Value) : Two w1 (W.setCell ⟨g6, v, none⟩ u) n b5 b6 g5 g6 Z (Z'.setIfInBounds v u) :=
  ⟨h.below.setCell (h.ge.2.2.2) _, h.x5.far h.b5g6 _, h.x6.far h.b6g6 _, h.y5.far h.ng _, h.y6.set_ v u, h.nb, h.ng, h.ge⟩
/-- what a round may touch -/
def GG (g5 g6 i : Nat) : Prop := i = g5 ∨ i = g6
theorem keepsFrom_of {B : Nat} (h : Two w1 W n b5 b6 g5 g6 Z Z') (hf : Foot (GG g5 g6) W W') : KeepsFrom B W W' := by
  refine ⟨hf.size, fun k o _ hk ho => ?_⟩
  refine (hf.block k (Array.getElem?_eq_some_iff.1 hk).1 ?_).trans hk
  rintro (rfl | rfl)
  · have h' : W.heap[k]? = some (.cells Z 3 (0, 0)) := h.y5
    rw [h'] at hk
    obtain rfl := Option.some.inj hk
    cases ho
  · have h' : W.heap[k]? = some (.cells Z' 3 (0, 0)) := h.y6
    rw [h'] at hk
    obtain rfl := Option.some.inj hk
    cases ho
end
end Go.Proofs.YtgdnpmpnkbnjaaaGreatDoor
