/- What holds behind the first drawn region of flow.Alone. No condition. -/
import Derived.Test.YtgdnpmpnkbnjaaaGreatDoorZH
import Derived.Test.YtgdnpmpnkbnjaaaGreatDoorZTouches
import Derived.Deep.RegionHeld3
namespace Go.Proofs.YtgdnpmpnkbnjaaaGreatDoor
open Go.RowKit

--F--
def aloneFr (p : Prg) (n b5 b6 g5 g6 : Nat) (u : Nat → Value) : Act :=
  { tmps := #[p.val, .pointer (some ⟨n, 0, none⟩), .slice none 0 0, .int .i64 0, .int .i64 0, .pointer (some ⟨b5, 0, none⟩), .pointer (some ⟨b6, 0, none⟩), u 7, u 8, u 9, u 10, u 11, u 12, u 13, u 14, u 15, u 16, u 17, u 18, u 19, u 20, .slice (some ⟨g5, 0, none⟩) p.vars.length p.vars.length, u 22, u 23, u 24, .slice (some ⟨g6, 0, none⟩) p.vars.length p.vars.length, u 26, u 27, u 28, u 29, u 30, u 31, u 32, u 33, u 34, u 35, u 36, u 37, u 38, u 39, u 40, u 41, u 42, u 43, u 44, u 45, u 46, u 47, u 48, u 49, u 50, u 51, u 52, u 53, u 54, u 55, u 56, u 57, u 58, u 59, u 60, u 61, u 62, u 63, u 64, u 65, u 66, u 67, u 68, u 69, u 70, u 71, u 72, u 73, u 74, u 75, u 76, u 77, u 78, u 79, u 80, u 81, u 82, u 83, u 84, u 85, u 86, u 87, u 88, u 89, u 90, u 91], defers := [] }
def aloneFr2 (p : Prg) (n b5 b6 bx : Nat) (u : Nat → Value) : Act :=
  { tmps := #[p.val, .pointer (some ⟨n, 0, none⟩), .slice none 0 0, .int .i64 0, .int .i64 0, .pointer (some ⟨b5, 0, none⟩), .pointer (some ⟨b6, 0, none⟩), u 7, u 8, u 9, u 10, u 11, u 12, u 13, u 14, u 15, u 16, u 17, u 18, u 19, u 20, u 21, u 22, u 23, u 24, u 25, u 26, u 27, .func (.func 32) #[] #[.pointer (some ⟨bx, 0, none⟩)], u 29, u 30, u 31, u 32, u 33, u 34, u 35, u 36, u 37, u 38, u 39, u 40, u 41, u 42, u 43, u 44, u 45, u 46, u 47, u 48, u 49, u 50, u 51, u 52, u 53, u 54, u 55, u 56, u 57, u 58, u 59, u 60, u 61, u 62, u 63, u 64, u 65, u 66, u 67, u 68, u 69, u 70, u 71, u 72, u 73, u 74, u 75, u 76, u 77, u 78, u 79, u 80, u 81, u 82, u 83, u 84, u 85, u 86, u 87, u 88, u 89, u 90, u 91], defers := [] }
def aloneFr3 (p : Prg) (n b5 b6 bx t : Nat) (u : Nat → Value) : Act :=
  { tmps := #[p.val, .pointer (some ⟨n, 0, none⟩), .slice none 0 0, .int .i64 0, .int .i64 0, .pointer (some ⟨b5, 0, none⟩), .pointer (some ⟨b6, 0, none⟩), .int .i64 (t : Int), u 8, u 9, u 10, u 11, u 12, u 13, u 14, u 15, u 16, u 17, u 18, u 19, u 20, u 21, u 22, u 23, u 24, u 25, u 26, u 27, .func (.func 32) #[] #[.pointer (some ⟨bx, 0, none⟩)], .int .i64 (t : Int), u 30, u 31, u 32, u 33, u 34, u 35, u 36, u 37, u 38, u 39, u 40, u 41, u 42, u 43, u 44, u 45, u 46, u 47, u 48, u 49, u 50, u 51, u 52, u 53, u 54, u 55, u 56, u 57, u 58, u 59, u 60, u 61, u 62, u 63, u 64, u 65, u 66, u 67, u 68, u 69, u 70, u 71, u 72, u 73, u 74, u 75, u 76, u 77, u 78, u 79, u 80, u 81, u 82, u 83, u 84, u 85, u 86, u 87, u 88, u 89, u 90, u 91], defers := [] }
--F end--
/-- users and writers: two boxes b5, b6, each with a row of its own, all 0 -/
structure Two (w1 W : World) (n b5 b6 g5 g6 : Nat) (Z Z' : Array Value) : Prop where
  below : Below w1.heap.size w1 W
  x5 : Blk W b5 28 #[.slice (some ⟨g5, 0, none⟩) n n]
  x6 : Blk W b6 28 #[.slice (some ⟨g6, 0, none⟩) n n]
  y5 : Blk W g5 3 Z
  y6 : Blk W g6 3 Z'
  nb : b5 ≠ b6
  ng : g5 ≠ g6
  ge : w1.heap.size ≤ b5 ∧ w1.heap.size ≤ b6 ∧ w1.heap.size ≤ g5 ∧ w1.heap.size ≤ g6
def AloneInit (p : Prg) (n : Nat) (w1 : World) (Z : Array Value) (a : Act) (W : World) : Prop :=
  ∃ b5 b6 g5 g6 u, a = aloneFr p n b5 b6 g5 g6 u ∧ Two w1 W p.vars.length b5 b6 g5 g6 Z Z
theorem AloneInit.of {p : Prg} {n : Nat} {w1 W : World} {Z : Array Value} {a : Act} {b5 b6 g5 g6 : Nat} (h : a = aloneFr p n b5 b6 g5 g6 (fun i => a.tmps.getD i undef)) (h1 : Below w1.heap.size w1 W)
    (h2 : Blk W b5 28 #[.slice (some ⟨g5, 0, none⟩) p.vars.length p.vars.length]) (h3 : Blk W b6 28 #[.slice (some ⟨g6, 0, none⟩) p.vars.length p.vars.length])
    (h4 : Blk W g5 3 Z) (h5 : Blk W g6 3 Z) (h6 : b5 ≠ b6) (h7 : g5 ≠ g6) (h8 : w1.heap.size ≤ b5 ∧ w1.heap.size ≤ b6 ∧ w1.heap.size ≤ g5 ∧ w1.heap.size ≤ g6) : AloneInit p n w1 Z a W :=
  ⟨b5, b6, g5, g6, _, h, h1, h2, h3, h4, h5, h6, h7, h8⟩
def AlonePost (p : Prg) (n : Nat) (w1 : World) (Z : Array Value) : Exit → Act → World → Prop
  | .normal, a, W => AloneInit p n w1 Z a W
  | _, _, _ => False
theorem Blk.set1 {W : World} {g : Nat} {t : TypeId} {u0 : Value} (h : Blk W g t #[u0]) (v : Value) : Blk (W.setCell ⟨g, 0, none⟩ v) g t #[v] := h.set_ 0 v
theorem keepDrew {W : World} {p : Addr} {v : Value} (h : W.cell? p = some v) : W.drew.cell? p = some v := h
theorem keepAlloc {W : World} {p : Addr} {v : Value} {o : Obj} (h : W.cell? p = some v) : (W.alloc o).cell? p = some v := (World.cell?_alloc_some W p o (by rw [h]; rfl)).trans h
theorem keepSet {W : World} {p q : Addr} {v u : Value} (h : W.cell? p = some v) (hn : p.block ≠ q.block) : (W.setCell q u).cell? p = some v := by
  rw [World.cell?_of_block (Below.heap_setCell W q u p.block hn)]
  exact h
end Go.Proofs.YtgdnpmpnkbnjaaaGreatDoor
