/- Contract of abreastref11.names: the names of one list, in new memory. Conditions: the sizes of Prg.Fits; the data lies in memory. (The like cases were printed by a small program.) -/
import Derived.Test.YtknnbckmdfnmaaaDoorCheckD
namespace Go.Proofs.YtknnbckmdfnmaaaDoor
open Go.RowKit

set_option maxHeartbeats 2000000 in
set_option maxRecDepth 100000 in
theorem names_1 (p : Prg) (w : World) (hf : p.Fits) (hin : p.In w w.heap.size) :
    Calls Tryd.prog 28 #[p.val, .int .i64 1] w fun e w' => ∃ v, e = .returned v ∧ Below w.heap.size w w' ∧ w'.ownsRow w.heap.size 9 1 v p.vars.length ((p.names 1).flatMap encS) := by
  obtain ⟨i0, hi0, hz0, hz1, hz2⟩ := info_parts info_str
  have HF := Lib.hid hf; clear hf
  have HI := Lib.hid hin; clear hin
  have h24 : p.vars.length * 24 ≤ 140737488351232 := by have := HF.out.vars; omega
  unfold Prg.val
  go_enter Tryd.func28, Tryd.ntmps28
  go_wp2_with fail
  generalize hW : World.alloc _ _ = W0
  have HBEL0 : Below w.heap.size w W0 := by subst hW; go_grown
  have hs0 : w.heap.size + 1 ≤ W0.heap.size := by subst hW; simp
  have hb0 : W0.cell? ⟨w.heap.size, 0, none⟩ = some (.slice p.Av p.vars.length p.cv) := by subst hW; simp [go_sem]
  clear hW
  go_loopw [5, 6] (fun l i wr => ∃ (k : Nat) (A : Option Addr) (c : Nat), k ≤ p.vars.length ∧ i = .int .i64 k ∧ l = .slice A k c ∧ wr.ownsRow W0.heap.size 9 1 (.slice A k c) k ((p.vars.take k).map fun x => Value.string x.name) ∧ Below W0.heap.size W0 wr) (fun l i _ => p.vars.length - (intOf i).toNat)
  case atStart => exact ⟨0, none, 0, by omega, rfl, rfl, ⟨rfl, .inl ⟨rfl, rfl⟩⟩, Below.refl _ _⟩
  case round =>
    obtain ⟨k, A1, c1, hk, rfl, rfl, hown, hg⟩ := hrel
    have hWr : W0.heap.size ≤ wr.heap.size := hg.size
    have hb1 : wr.cell? ⟨w.heap.size, 0, none⟩ = some (.slice p.Av p.vars.length p.cv) := (hg.cell (p := ⟨w.heap.size, 0, none⟩) (by show w.heap.size < _; omega)).trans hb0
    by_cases hlt : k < p.vars.length
    · obtain ⟨x, hx⟩ := get_some hlt
      obtain ⟨g, off, hA, hgB, q0, q1⟩ := ((HI.out.vars).below (HBEL0.trans (hg.mono (by omega)))).nam hx
      have HX := Lib.hid hx
      rw [hA] at hb1
      clear hA hx
      go_wp2_with (at_builtin; go_must (refine wpList_append_one rfl (.tmp 20) (.tmp 27) _ rfl _ _ W0.heap.size 9 i0 _ 1 16 Tryd.underlying23 hi0 hz0 hz1 hz2 rfl (by omega) (.slice A1 k c1) k _ (by rfl) _ (by rfl) (by simp) (by rfl) (by simp [Value.oneCell']) (by exact hown) (by simp only [maxLen]; omega) (by omega) (by first | exact hWr | (simp; omega)) ?_); intro g1 k1 w1 hown1 hg1 hat1 hbg1 hgl1)
      go_roundw
      case rel =>
        refine ⟨k + 1, _, _, by omega, by go_num, rfl, ?_, hg.grown hg1 hWr ?_⟩
        · rw [take_map_succ _ HX.out]
          exact hown1
        · intro j hj
          exact (hown.lt j hj).1
      case measure => simp [intOf]; omega
    · obtain rfl : k = p.vars.length := by omega
      clear hk hlt
      go_wp2_with fail
      rw [take_all_map] at hown
      go_ret
      exact ⟨_, rfl, HBEL0.trans (hg.mono (by omega)), own_base hown (by omega)⟩
set_option maxHeartbeats 2000000 in
set_option maxRecDepth 100000 in
theorem names_2 (p : Prg) (w : World) (hf : p.Fits) (hin : p.In w w.heap.size) :
    Calls Tryd.prog 28 #[p.val, .int .i64 2] w fun e w' => ∃ v, e = .returned v ∧ Below w.heap.size w w' ∧ w'.ownsRow w.heap.size 9 1 v p.vols.length ((p.names 2).flatMap encS) := by
  obtain ⟨i0, hi0, hz0, hz1, hz2⟩ := info_parts info_str
  have HF := Lib.hid hf; clear hf
  have HI := Lib.hid hin; clear hin
  have h24 : p.vols.length * 24 ≤ 140737488351232 := by have := HF.out.vols; omega
  unfold Prg.val
  go_enter Tryd.func28, Tryd.ntmps28
  go_wp2_with fail
  generalize hW : World.alloc _ _ = W0
  have HBEL0 : Below w.heap.size w W0 := by subst hW; go_grown
  have hs0 : w.heap.size + 1 ≤ W0.heap.size := by subst hW; simp
  have hb0 : W0.cell? ⟨w.heap.size, 1, none⟩ = some (.slice p.Ao p.vols.length p.co) := by subst hW; simp [go_sem]
  clear hW
  go_loopw [5, 7] (fun l i wr => ∃ (k : Nat) (A : Option Addr) (c : Nat), k ≤ p.vols.length ∧ i = .int .i64 k ∧ l = .slice A k c ∧ wr.ownsRow W0.heap.size 9 1 (.slice A k c) k ((p.vols.take k).map fun x => Value.string x.name) ∧ Below W0.heap.size W0 wr) (fun l i _ => p.vols.length - (intOf i).toNat)
  case atStart => exact ⟨0, none, 0, by omega, rfl, rfl, ⟨rfl, .inl ⟨rfl, rfl⟩⟩, Below.refl _ _⟩
  case round =>
    obtain ⟨k, A1, c1, hk, rfl, rfl, hown, hg⟩ := hrel
    have hWr : W0.heap.size ≤ wr.heap.size := hg.size
    have hb1 : wr.cell? ⟨w.heap.size, 1, none⟩ = some (.slice p.Ao p.vols.length p.co) := (hg.cell (p := ⟨w.heap.size, 1, none⟩) (by show w.heap.size < _; omega)).trans hb0
    by_cases hlt : k < p.vols.length
    · obtain ⟨x, hx⟩ := get_some hlt
      obtain ⟨g, off, hA, hgB, q0, q1⟩ := ((HI.out.vols).below (HBEL0.trans (hg.mono (by omega)))).nam hx
      have HX := Lib.hid hx
      rw [hA] at hb1
      clear hA hx
      go_wp2_with (at_builtin; go_must (refine wpList_append_one rfl (.tmp 38) (.tmp 45) _ rfl _ _ W0.heap.size 9 i0 _ 1 16 Tryd.underlying23 hi0 hz0 hz1 hz2 rfl (by omega) (.slice A1 k c1) k _ (by rfl) _ (by rfl) (by simp) (by rfl) (by simp [Value.oneCell']) (by exact hown) (by simp only [maxLen]; omega) (by omega) (by first | exact hWr | (simp; omega)) ?_); intro g1 k1 w1 hown1 hg1 hat1 hbg1 hgl1)
      go_roundw
      case rel =>
        refine ⟨k + 1, _, _, by omega, by go_num, rfl, ?_, hg.grown hg1 hWr ?_⟩
        · rw [take_map_succ _ HX.out]
          exact hown1
        · intro j hj
          exact (hown.lt j hj).1
      case measure => simp [intOf]; omega
    · obtain rfl : k = p.vols.length := by omega
      clear hk hlt
      go_wp2_with fail
      rw [take_all_map] at hown
      go_ret
      exact ⟨_, rfl, HBEL0.trans (hg.mono (by omega)), own_base hown (by omega)⟩
set_option maxHeartbeats 2000000 in
set_option maxRecDepth 100000 in
theorem names_3 (p : Prg) (w : World) (hf : p.Fits) (hin : p.In w w.heap.size) :
    Calls Tryd.prog 28 #[p.val, .int .i64 3] w fun e w' => ∃ v, e = .returned v ∧ Below w.heap.size w w' ∧ w'.ownsRow w.heap.size 9 1 v p.locks.length ((p.names 3).flatMap encS) := by
  obtain ⟨i0, hi0, hz0, hz1, hz2⟩ := info_parts info_str
  have HF := Lib.hid hf; clear hf
  have HI := Lib.hid hin; clear hin
  have h24 : p.locks.length * 16 ≤ 140737488351232 := HF.out.locks
  unfold Prg.val
  go_enter Tryd.func28, Tryd.ntmps28
  have hb1 : Below w.heap.size w (w.alloc (.cells #[.slice p.Av p.vars.length p.cv, .slice p.Ao p.vols.length p.co, .slice p.Al p.locks.length p.cl, .slice p.Ab p.bars.length p.cb, .slice p.At p.threads.length p.ct] 27)) := by go_grown
  have HLR := Lib.hid (RdL.reads (enc := encS) (size := 1) (fun _ => rfl) ((HI.out.below hb1).locks))
  go_wp2_with (at_builtin; go_must (refine wpList_append_any _ rfl (.tmp 49) (.tmp 51) _ rfl w.heap.size 9 i0 _ 1 16 Tryd.underlying23 hi0 hz0 hz1 hz2 rfl (by omega) ns 0 [] (by rfl) (World.ownsRow_nil _ _ _ _) w.heap.size p.Al p.locks.length p.cl _ (by rfl) HLR.out oneS (by simp only [maxLen]; omega) (by omega) (by simp) ?_); intro v3 w1 hown hg1 hat1; rw [Nat.zero_add] at hown)
  go_ret
  exact ⟨_, rfl, hb1.grown hg1 (by simp) (by intro k hk; cases hk), hown⟩
set_option maxHeartbeats 2000000 in
set_option maxRecDepth 100000 in
theorem names_4 (p : Prg) (w : World) (hf : p.Fits) (hin : p.In w w.heap.size) :
    Calls Tryd.prog 28 #[p.val, .int .i64 4] w fun e w' => ∃ v, e = .returned v ∧ Below w.heap.size w w' ∧ w'.ownsRow w.heap.size 9 1 v p.bars.length ((p.names 4).flatMap encS) := by
  obtain ⟨i0, hi0, hz0, hz1, hz2⟩ := info_parts info_str
  have HF := Lib.hid hf; clear hf
  have HI := Lib.hid hin; clear hin
  have h24 : p.bars.length * 24 ≤ 140737488351232 := by have := HF.out.bars; omega
  unfold Prg.val
  go_enter Tryd.func28, Tryd.ntmps28
  go_wp2_with fail
  generalize hW : World.alloc _ _ = W0
  have HBEL0 : Below w.heap.size w W0 := by subst hW; go_grown
  have hs0 : w.heap.size + 1 ≤ W0.heap.size := by subst hW; simp
  have hb0 : W0.cell? ⟨w.heap.size, 3, none⟩ = some (.slice p.Ab p.bars.length p.cb) := by subst hW; simp [go_sem]
  clear hW
  go_loopw [5, 8] (fun l i wr => ∃ (k : Nat) (A : Option Addr) (c : Nat), k ≤ p.bars.length ∧ i = .int .i64 k ∧ l = .slice A k c ∧ wr.ownsRow W0.heap.size 9 1 (.slice A k c) k ((p.bars.take k).map fun x => Value.string x.name) ∧ Below W0.heap.size W0 wr) (fun l i _ => p.bars.length - (intOf i).toNat)
  case atStart => exact ⟨0, none, 0, by omega, rfl, rfl, ⟨rfl, .inl ⟨rfl, rfl⟩⟩, Below.refl _ _⟩
  case round =>
    obtain ⟨k, A1, c1, hk, rfl, rfl, hown, hg⟩ := hrel
    have hWr : W0.heap.size ≤ wr.heap.size := hg.size
    have hb1 : wr.cell? ⟨w.heap.size, 3, none⟩ = some (.slice p.Ab p.bars.length p.cb) := (hg.cell (p := ⟨w.heap.size, 3, none⟩) (by show w.heap.size < _; omega)).trans hb0
    by_cases hlt : k < p.bars.length
    · obtain ⟨x, hx⟩ := get_some hlt
      obtain ⟨g, off, hA, hgB, q0, q1⟩ := ((HI.out.bars).below (HBEL0.trans (hg.mono (by omega)))).nam hx
      have HX := Lib.hid hx
      rw [hA] at hb1
      clear hA hx
      go_wp2_with (at_builtin; go_must (refine wpList_append_one rfl (.tmp 62) (.tmp 69) _ rfl _ _ W0.heap.size 9 i0 _ 1 16 Tryd.underlying23 hi0 hz0 hz1 hz2 rfl (by omega) (.slice A1 k c1) k _ (by rfl) _ (by rfl) (by simp) (by rfl) (by simp [Value.oneCell']) (by exact hown) (by simp only [maxLen]; omega) (by omega) (by first | exact hWr | (simp; omega)) ?_); intro g1 k1 w1 hown1 hg1 hat1 hbg1 hgl1)
      go_roundw
      case rel =>
        refine ⟨k + 1, _, _, by omega, by go_num, rfl, ?_, hg.grown hg1 hWr ?_⟩
        · rw [take_map_succ _ HX.out]
          exact hown1
        · intro j hj
          exact (hown.lt j hj).1
      case measure => simp [intOf]; omega
    · obtain rfl : k = p.bars.length := by omega
      clear hk hlt
      go_wp2_with fail
      rw [take_all_map] at hown
      go_ret
      exact ⟨_, rfl, HBEL0.trans (hg.mono (by omega)), own_base hown (by omega)⟩
set_option maxHeartbeats 2000000 in
set_option maxRecDepth 100000 in
theorem names_5 (p : Prg) (w : World) (hf : p.Fits) (hin : p.In w w.heap.size) :
    Calls Tryd.prog 28 #[p.val, .int .i64 5] w fun e w' => ∃ v, e = .returned v ∧ Below w.heap.size w w' ∧ w'.ownsRow w.heap.size 9 1 v p.threads.length ((p.names 5).flatMap encS) := by
  obtain ⟨i0, hi0, hz0, hz1, hz2⟩ := info_parts info_str
  have HF := Lib.hid hf; clear hf
  have HI := Lib.hid hin; clear hin
  have h24 : p.threads.length * 24 ≤ 140737488351232 := by have := HF.out.threads; omega
  unfold Prg.val
  go_enter Tryd.func28, Tryd.ntmps28
  go_wp2_with fail
  generalize hW : World.alloc _ _ = W0
  have HBEL0 : Below w.heap.size w W0 := by subst hW; go_grown
  have hs0 : w.heap.size + 1 ≤ W0.heap.size := by subst hW; simp
  have hb0 : W0.cell? ⟨w.heap.size, 4, none⟩ = some (.slice p.At p.threads.length p.ct) := by subst hW; simp [go_sem]
  clear hW
  go_loopw [5, 9] (fun l i wr => ∃ (k : Nat) (A : Option Addr) (c : Nat), k ≤ p.threads.length ∧ i = .int .i64 k ∧ l = .slice A k c ∧ wr.ownsRow W0.heap.size 9 1 (.slice A k c) k ((p.threads.take k).map fun x => Value.string x.name) ∧ Below W0.heap.size W0 wr) (fun l i _ => p.threads.length - (intOf i).toNat)
  case atStart => exact ⟨0, none, 0, by omega, rfl, rfl, ⟨rfl, .inl ⟨rfl, rfl⟩⟩, Below.refl _ _⟩
  case round =>
    obtain ⟨k, A1, c1, hk, rfl, rfl, hown, hg⟩ := hrel
    have hWr : W0.heap.size ≤ wr.heap.size := hg.size
    have hb1 : wr.cell? ⟨w.heap.size, 4, none⟩ = some (.slice p.At p.threads.length p.ct) := (hg.cell (p := ⟨w.heap.size, 4, none⟩) (by show w.heap.size < _; omega)).trans hb0
    by_cases hlt : k < p.threads.length
    · obtain ⟨x, hx⟩ := get_some hlt
      obtain ⟨g, off, hA, hgB, q0, q1, q2⟩ := ((HI.out.threads).below (HBEL0.trans (hg.mono (by omega)))).thr hx
      have HX := Lib.hid hx
      rw [hA] at hb1
      clear hA hx
      go_wp2_with (at_builtin; go_must (refine wpList_append_one rfl (.tmp 80) (.tmp 87) _ rfl _ _ W0.heap.size 9 i0 _ 1 16 Tryd.underlying23 hi0 hz0 hz1 hz2 rfl (by omega) (.slice A1 k c1) k _ (by rfl) _ (by rfl) (by simp) (by rfl) (by simp [Value.oneCell']) (by exact hown) (by simp only [maxLen]; omega) (by omega) (by first | exact hWr | (simp; omega)) ?_); intro g1 k1 w1 hown1 hg1 hat1 hbg1 hgl1)
      go_roundw
      case rel =>
        refine ⟨k + 1, _, _, by omega, by go_num, rfl, ?_, hg.grown hg1 hWr ?_⟩
        · rw [take_map_succ _ HX.out]
          exact hown1
        · intro j hj
          exact (hown.lt j hj).1
      case measure => simp [intOf]; omega
    · obtain rfl : k = p.threads.length := by omega
      clear hk hlt
      go_wp2_with fail
      rw [take_all_map] at hown
      go_ret
      exact ⟨_, rfl, HBEL0.trans (hg.mono (by omega)), own_base hown (by omega)⟩
set_option maxHeartbeats 1000000 in
theorem names_0 (p : Prg) (part : Int) (w : World) (h : part < 1 ∨ 5 < part) :
    Calls Tryd.prog 28 #[p.val, .int .i64 part] w fun e w' => ∃ v, e = .returned v ∧ Below w.heap.size w w' ∧ w'.ownsRow w.heap.size 9 1 v 0 [] := by
  have h1 : (part == 1) = false := by rw [beq_eq_false_iff_ne]; omega
  have h2 : (part == 2) = false := by rw [beq_eq_false_iff_ne]; omega
  have h3 : (part == 3) = false := by rw [beq_eq_false_iff_ne]; omega
  have h4 : (part == 4) = false := by rw [beq_eq_false_iff_ne]; omega
  have h5 : (part == 5) = false := by rw [beq_eq_false_iff_ne]; omega
  clear h
  unfold Prg.val
  go_enter Tryd.func28, Tryd.ntmps28
  go_wp2_with fail
  go_ret
  exact ⟨_, rfl, by go_grown, World.ownsRow_nil _ _ _ _⟩
theorem names_out {p : Prg} {part : Int} (h : part < 1 ∨ 5 < part) : p.names part.toNat = [] := by
  have h1 : part.toNat = 0 ∨ 5 < part.toNat := by omega
  rcases h1 with h1 | h1
  · rw [h1]; rfl
  · unfold Prg.names
    split
    all_goals first | omega | rfl
/-- abreastref11.names -/
theorem names_any (p : Prg) (part : Int) (w : World) (hf : p.Fits) (hin : p.In w w.heap.size) :
    Calls Tryd.prog 28 #[p.val, .int .i64 part] w fun e w' => ∃ v, e = .returned v ∧ Below w.heap.size w w' ∧ w'.ownsRow w.heap.size 9 1 v (p.names part.toNat).length ((p.names part.toNat).flatMap encS) := by
  by_cases h : part < 1 ∨ 5 < part
  · rw [names_out h]
    exact names_0 p part w h
  · have h5 : part = 1 ∨ part = 2 ∨ part = 3 ∨ part = 4 ∨ part = 5 := by omega
    rcases h5 with rfl | rfl | rfl | rfl | rfl
    · have := names_1 p w hf hin
      simpa [Prg.names] using this
    · have := names_2 p w hf hin
      simpa [Prg.names] using this
    · have := names_3 p w hf hin
      simpa [Prg.names] using this
    · have := names_4 p w hf hin
      simpa [Prg.names] using this
    · have := names_5 p w hf hin
      simpa [Prg.names] using this
end Go.Proofs.YtknnbckmdfnmaaaDoor
