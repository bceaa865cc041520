/- Contract of abreastref11.SameShape: true of two shapes that are one. Condition: their lists lie in memory. -/
import Derived.Test.YtknnbckmdfnmaaaDoorSame
namespace Go.Proofs.YtknnbckmdfnmaaaDoor
open Go.RowKit

set_option maxHeartbeats 1000000 in
set_option maxRecDepth 100000 in
theorem sameShape_any (s : Shp) (A B : Option Addr) (c d : Nat) (w : World) (hl : s.parties.length * 8 ≤ 140737488351232) (hA : RdL encZ 1 w w.heap.size A s.parties) (hB : RdL encZ 1 w w.heap.size B s.parties) :
    Calls Tryd.prog 17 #[s.val (.slice A s.parties.length c), s.val (.slice B s.parties.length d)] w fun e w' => e = .returned (.bool true) ∧ Below w.heap.size w w' := by
  have HA := Lib.hid hA; clear hA
  have HB := Lib.hid hB; clear hB
  unfold Shp.val
  go_enter Tryd.func17, Tryd.ntmps17
  go_wp2_with fail
  generalize hW : World.alloc _ _ = W1
  have hb1 : Below w.heap.size w W1 := by subst hW; go_grown
  have a4 : W1.cell? ⟨w.heap.size, 4, none⟩ = some (.slice A s.parties.length c) := by subst hW; simp [go_sem]
  have b4 : W1.cell? ⟨w.heap.size + 1, 4, none⟩ = some (.slice B s.parties.length d) := by subst hW; simp [go_sem]
  have hs1 : W1.heap.size = w.heap.size + 1 + 1 := by subst hW; simp
  clear hW
  go_loopw [5] (fun i wr => ∃ k : Nat, k ≤ s.parties.length ∧ i = .int .i64 k ∧ Below W1.heap.size W1 wr) (fun i _ => s.parties.length - (intOf i).toNat)
  case atStart => exact ⟨0, by omega, rfl, Below.refl _ _⟩
  case round =>
    obtain ⟨k, hk, rfl, hb⟩ := hrel
    have hw := hb.size
    have hbw : Below w.heap.size w wr := hb1.trans (hb.mono (by omega))
    have a5 : wr.cell? ⟨w.heap.size, 4, none⟩ = some (.slice A s.parties.length c) := (hb.cell (p := ⟨w.heap.size, 4, none⟩) (by show w.heap.size < _; omega)).trans a4
    have b5 : wr.cell? ⟨w.heap.size + 1, 4, none⟩ = some (.slice B s.parties.length d) := (hb.cell (p := ⟨w.heap.size + 1, 4, none⟩) (by show w.heap.size + 1 < _; omega)).trans b4
    by_cases hlt : k < s.parties.length
    · obtain ⟨x, hx⟩ := get_some hlt
      obtain ⟨ga, oa, hA, hga, qa⟩ := (HA.out.below hbw).num hx
      obtain ⟨gb, ob, hB, hgb, qb⟩ := (HB.out.below hbw).num hx
      clear hx a4 b4
      rw [hA] at a5
      rw [hB] at b5
      clear hA hB
      have hk0 : (0 : Int) ≤ (k : Int) := by omega
      have hk1 : (k : Int) < (s.parties.length : Int) := by omega
      go_wp2_with fail
      go_quiet (fail)
      go_wp2_with fail
      go_roundw
      case rel => exact ⟨k + 1, by omega, by go_num, below_drewN hb _⟩
      case measure => simp [intOf]; omega
    · obtain rfl : k = s.parties.length := by omega
      clear hk hlt
      go_wp2_with fail
      go_ret
      exact ⟨rfl, hbw⟩
end Go.Proofs.YtknnbckmdfnmaaaDoor
