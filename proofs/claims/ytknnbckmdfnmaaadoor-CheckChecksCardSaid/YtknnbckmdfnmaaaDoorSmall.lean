/- Contract of abreastlaw11.small: one thread that ends. No condition. -/
import Derived.Test.YtknnbckmdfnmaaaDoorCheckD
namespace Go.Proofs.YtknnbckmdfnmaaaDoor
open Go.RowKit

theorem size_prog : (Tryd.prog.info? 27).map (·.size) = some 5 := by kernel_rfl
/-- the program of one thread, of one instruction, its lists at blocks a (code), b (places), t (threads) -/
def smallT (op : Int) (a b : Nat) : Thr := ⟨{ data := #[116] }, some ⟨a, 0, none⟩, 1, [⟨op, 0, 0, 0, 0⟩], some ⟨b, 0, none⟩, 1, [⟨1, 1⟩]⟩
def smallP (op : Int) (a b t : Nat) : Prg := ⟨none, 0, [], none, 0, [], none, 0, [], none, 0, [], some ⟨t, 0, none⟩, 1, [smallT op a b]⟩
structure SmallAt (op : Int) (w : World) (a b t : Nat) : Prop where
  code : Blk w a 45 #[.int .i64 op, .int .i64 0, .int .i64 0, .int .i64 0, .int .i64 0]
  places : Blk w b 68 #[.int .i64 1, .int .i64 1]
  thr : Blk w t 42 #[.string { data := #[116] }, .slice (some ⟨a, 0, none⟩) 1 1, .slice (some ⟨b, 0, none⟩) 1 1]
theorem small_fits (op : Int) (a b t : Nat) : (smallP op a b t).Fits := by
  refine ⟨by simp [smallP], by simp [smallP], by simp [smallP], by simp [smallP], by simp [smallP], by simp [smallP], by simp [smallP], by simp [smallP], by simp [smallP], by simp [smallP], by simp [smallP], by simp [smallP], by simp [smallP], by simp [smallP], fun x hx => ?_⟩
  obtain rfl : x = smallT op a b := by simpa [smallP] using hx
  exact ⟨by show (1 : Nat) ≤ _; decide, by show (1 : Nat) * 40 ≤ _; decide, by show (1 : Nat) * 16 ≤ _; decide, Nat.le_refl 1, Nat.le_refl 1⟩
theorem small_in {op : Int} {w : World} {a b t : Nat} (h : SmallAt op w a b t) : (smallP op a b t).In w w.heap.size := by
  have one : ∀ {α : Type} {x y : α} {k : Nat}, [x][k]? = some y → k = 0 ∧ y = x := by
    intro α x y k h
    cases k with
    | zero => exact ⟨rfl, (Option.some.inj h).symm⟩
    | succ k => simp at h
  refine ⟨fun h => absurd rfl h, fun h => absurd rfl h, fun h => absurd rfl h, fun h => absurd rfl h, fun _ => ⟨t, 0, rfl, h.thr.lt, fun k x hk j u hj => ?_⟩, fun x hx => ?_⟩
  · obtain ⟨rfl, rfl⟩ := one hk
    rw [h.thr.cell]
    simpa [smallT, Thr.cells] using hj
  · obtain rfl : x = smallT op a b := by simpa [smallP] using hx
    refine ⟨fun _ => ⟨a, 0, rfl, h.code.lt, fun k x hk j u hj => ?_⟩, fun _ => ⟨b, 0, rfl, h.places.lt, fun k x hk j u hj => ?_⟩⟩
    · obtain ⟨rfl, rfl⟩ := one hk
      rw [h.code.cell]
      simpa [encI] using hj
    · obtain ⟨rfl, rfl⟩ := one hk
      rw [h.places.cell]
      simpa [encP] using hj
set_option maxHeartbeats 1000000 in
set_option maxRecDepth 100000 in
theorem small_any (w : World) :
    Calls Tryd.prog 31 #[] w fun e w' => e = .returned (smallP 20 (w.heap.size + 1) (w.heap.size + 1 + 1) (w.heap.size + 1 + 1 + 1)).val ∧ Below w.heap.size w w' ∧ SmallAt 20 w' (w.heap.size + 1) (w.heap.size + 1 + 1) (w.heap.size + 1 + 1 + 1) := by
  go_enter Tryd.func31, Tryd.ntmps31
  go_wp2_with fail
  try simp only [Exit.inBlock, Exit.then]
  refine bodyPost_ret (v := (smallP 20 (w.heap.size + 1) (w.heap.size + 1 + 1) (w.heap.size + 1 + 1 + 1)).val) ?_ rfl ?_
  · exact results_cell_row rfl _ _ w.heap.size 27 _ (0, 0) _ rfl ((((Blk.new w _ _).alloc _).alloc _).alloc _) Tryd.underlying27 rfl size_prog
  refine ⟨rfl, by go_grown, ⟨?_, ?_, ?_⟩⟩
  · exact (((Blk.new _ _ _).moved (by simp)).alloc _).alloc _
  · exact ((Blk.new _ _ _).moved (by simp)).alloc _
  · exact (Blk.new _ _ _).moved (by simp)
end Go.Proofs.YtknnbckmdfnmaaaDoor
