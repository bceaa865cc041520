/- Contract of check.counts: the first list that has too many things (or no thread). No condition but that the six slices lie in one block. (The like cases were printed by a small program.) -/
import Derived.Test.YtknnbckmdfnmaaaDoorParts
import Derived.Deep.QuietTactic
import Derived.BigQuiet
namespace Go.Proofs.YtknnbckmdfnmaaaDoor
open Go.RowKit

theorem below_drewN {B : Nat} {a w : World} (h : Below B a w) (n : Nat) : Below B a (w.drewN n) := ⟨h.os, h.tape, h.output, h.size, h.block⟩
def cntPart (n1 n2 n3 n4 n5 : Nat) : Nat :=
  if 4096 < n1 then 1 else if 4096 < n2 then 2 else if 4096 < n3 then 3 else if 4096 < n4 then 4 else if 65535 < n5 ∨ n5 = 0 then 5 else 0
/-- the answer: an error and a place -/
def spotV (e part number at_ : Int) : Value := .tuple #[.int .i64 e, .agg #[.int .i64 part, .int .i64 number, .int .i64 at_]]

set_option maxHeartbeats 1000000 in
set_option maxRecDepth 100000 in
theorem counts_bad1 (A1 A2 A3 A4 A5 : Option Addr) (n1 n2 n3 n4 n5 c1 c2 c3 c4 c5 ga : Nat) (w : World)
    (hb : Blk w ga 69 #[ns, .slice A1 n1 c1, .slice A2 n2 c2, .slice A3 n3 c3, .slice A4 n4 c4, .slice A5 n5 c5])
    (h1 : 4096 < n1) :
    Calls Tryd.prog 24 #[.pointer (some ⟨ga, 0, none⟩)] w fun e w' => e = .returned (spotV 110 1 0 0) ∧ Below w.heap.size w w' := by
  have hga : ga < w.heap.size := hb.lt
  have b0 := hb.cell 0
  have b1 := hb.cell 1
  have b2 := hb.cell 2
  have b3 := hb.cell 3
  have b4 := hb.cell 4
  have b5 := hb.cell 5
  clear hb
  go_enter Tryd.func24, Tryd.ntmps24
  go_wp2_with fail
  refine wp_loop_rounds 7 ?_
  iterate 2 (rw [rounds_succ]; go_wp2_with fail; go_quiet (fail); go_wp2_with fail)
  go_returns
  exact ⟨rfl, by repeat' (first | (with_reducible exact Below.refl _ _) | (with_reducible assumption) | (with_reducible refine below_drewN ?_ _) | (with_reducible refine Below.drew ?_) | (with_reducible refine Below.alloc ?_ ?_ _) | (with_reducible refine Below.setCell ?_ ?_ _) | go_size)⟩

set_option maxHeartbeats 1000000 in
set_option maxRecDepth 100000 in
theorem counts_bad2 (A1 A2 A3 A4 A5 : Option Addr) (n1 n2 n3 n4 n5 c1 c2 c3 c4 c5 ga : Nat) (w : World)
    (hb : Blk w ga 69 #[ns, .slice A1 n1 c1, .slice A2 n2 c2, .slice A3 n3 c3, .slice A4 n4 c4, .slice A5 n5 c5])
    (h1 : n1 ≤ 4096) (h2 : 4096 < n2) :
    Calls Tryd.prog 24 #[.pointer (some ⟨ga, 0, none⟩)] w fun e w' => e = .returned (spotV 110 2 0 0) ∧ Below w.heap.size w w' := by
  have hga : ga < w.heap.size := hb.lt
  have b0 := hb.cell 0
  have b1 := hb.cell 1
  have b2 := hb.cell 2
  have b3 := hb.cell 3
  have b4 := hb.cell 4
  have b5 := hb.cell 5
  clear hb
  go_enter Tryd.func24, Tryd.ntmps24
  go_wp2_with fail
  refine wp_loop_rounds 7 ?_
  iterate 3 (rw [rounds_succ]; go_wp2_with fail; go_quiet (fail); go_wp2_with fail)
  go_returns
  exact ⟨rfl, by repeat' (first | (with_reducible exact Below.refl _ _) | (with_reducible assumption) | (with_reducible refine below_drewN ?_ _) | (with_reducible refine Below.drew ?_) | (with_reducible refine Below.alloc ?_ ?_ _) | (with_reducible refine Below.setCell ?_ ?_ _) | go_size)⟩

set_option maxHeartbeats 1000000 in
set_option maxRecDepth 100000 in
theorem counts_bad3 (A1 A2 A3 A4 A5 : Option Addr) (n1 n2 n3 n4 n5 c1 c2 c3 c4 c5 ga : Nat) (w : World)
    (hb : Blk w ga 69 #[ns, .slice A1 n1 c1, .slice A2 n2 c2, .slice A3 n3 c3, .slice A4 n4 c4, .slice A5 n5 c5])
    (h1 : n1 ≤ 4096) (h2 : n2 ≤ 4096) (h3 : 4096 < n3) :
    Calls Tryd.prog 24 #[.pointer (some ⟨ga, 0, none⟩)] w fun e w' => e = .returned (spotV 110 3 0 0) ∧ Below w.heap.size w w' := by
  have hga : ga < w.heap.size := hb.lt
  have b0 := hb.cell 0
  have b1 := hb.cell 1
  have b2 := hb.cell 2
  have b3 := hb.cell 3
  have b4 := hb.cell 4
  have b5 := hb.cell 5
  clear hb
  go_enter Tryd.func24, Tryd.ntmps24
  go_wp2_with fail
  refine wp_loop_rounds 7 ?_
  iterate 4 (rw [rounds_succ]; go_wp2_with fail; go_quiet (fail); go_wp2_with fail)
  go_returns
  exact ⟨rfl, by repeat' (first | (with_reducible exact Below.refl _ _) | (with_reducible assumption) | (with_reducible refine below_drewN ?_ _) | (with_reducible refine Below.drew ?_) | (with_reducible refine Below.alloc ?_ ?_ _) | (with_reducible refine Below.setCell ?_ ?_ _) | go_size)⟩

set_option maxHeartbeats 1000000 in
set_option maxRecDepth 100000 in
theorem counts_bad4 (A1 A2 A3 A4 A5 : Option Addr) (n1 n2 n3 n4 n5 c1 c2 c3 c4 c5 ga : Nat) (w : World)
    (hb : Blk w ga 69 #[ns, .slice A1 n1 c1, .slice A2 n2 c2, .slice A3 n3 c3, .slice A4 n4 c4, .slice A5 n5 c5])
    (h1 : n1 ≤ 4096) (h2 : n2 ≤ 4096) (h3 : n3 ≤ 4096) (h4 : 4096 < n4) :
    Calls Tryd.prog 24 #[.pointer (some ⟨ga, 0, none⟩)] w fun e w' => e = .returned (spotV 110 4 0 0) ∧ Below w.heap.size w w' := by
  have hga : ga < w.heap.size := hb.lt
  have b0 := hb.cell 0
  have b1 := hb.cell 1
  have b2 := hb.cell 2
  have b3 := hb.cell 3
  have b4 := hb.cell 4
  have b5 := hb.cell 5
  clear hb
  go_enter Tryd.func24, Tryd.ntmps24
  go_wp2_with fail
  refine wp_loop_rounds 7 ?_
  iterate 5 (rw [rounds_succ]; go_wp2_with fail; go_quiet (fail); go_wp2_with fail)
  go_returns
  exact ⟨rfl, by repeat' (first | (with_reducible exact Below.refl _ _) | (with_reducible assumption) | (with_reducible refine below_drewN ?_ _) | (with_reducible refine Below.drew ?_) | (with_reducible refine Below.alloc ?_ ?_ _) | (with_reducible refine Below.setCell ?_ ?_ _) | go_size)⟩

set_option maxHeartbeats 1000000 in
set_option maxRecDepth 100000 in
theorem counts_bad5 (A1 A2 A3 A4 A5 : Option Addr) (n1 n2 n3 n4 n5 c1 c2 c3 c4 c5 ga : Nat) (w : World)
    (hb : Blk w ga 69 #[ns, .slice A1 n1 c1, .slice A2 n2 c2, .slice A3 n3 c3, .slice A4 n4 c4, .slice A5 n5 c5])
    (h1 : n1 ≤ 4096) (h2 : n2 ≤ 4096) (h3 : n3 ≤ 4096) (h4 : n4 ≤ 4096) (h5 : 65535 < n5) :
    Calls Tryd.prog 24 #[.pointer (some ⟨ga, 0, none⟩)] w fun e w' => e = .returned (spotV 110 5 0 0) ∧ Below w.heap.size w w' := by
  have hga : ga < w.heap.size := hb.lt
  have b0 := hb.cell 0
  have b1 := hb.cell 1
  have b2 := hb.cell 2
  have b3 := hb.cell 3
  have b4 := hb.cell 4
  have b5 := hb.cell 5
  clear hb
  go_enter Tryd.func24, Tryd.ntmps24
  go_wp2_with fail
  refine wp_loop_rounds 7 ?_
  iterate 6 (rw [rounds_succ]; go_wp2_with fail; go_quiet (fail); go_wp2_with fail)
  go_returns
  exact ⟨rfl, by repeat' (first | (with_reducible exact Below.refl _ _) | (with_reducible assumption) | (with_reducible refine below_drewN ?_ _) | (with_reducible refine Below.drew ?_) | (with_reducible refine Below.alloc ?_ ?_ _) | (with_reducible refine Below.setCell ?_ ?_ _) | go_size)⟩

set_option maxHeartbeats 1000000 in
set_option maxRecDepth 100000 in
theorem counts_none (A1 A2 A3 A4 A5 : Option Addr) (n1 n2 n3 n4 n5 c1 c2 c3 c4 c5 ga : Nat) (w : World)
    (hb : Blk w ga 69 #[ns, .slice A1 n1 c1, .slice A2 n2 c2, .slice A3 n3 c3, .slice A4 n4 c4, .slice A5 n5 c5])
    (h1 : n1 ≤ 4096) (h2 : n2 ≤ 4096) (h3 : n3 ≤ 4096) (h4 : n4 ≤ 4096) (h5 : n5 = 0) :
    Calls Tryd.prog 24 #[.pointer (some ⟨ga, 0, none⟩)] w fun e w' => e = .returned (spotV 110 5 0 0) ∧ Below w.heap.size w w' := by
  have hga : ga < w.heap.size := hb.lt
  have b0 := hb.cell 0
  have b1 := hb.cell 1
  have b2 := hb.cell 2
  have b3 := hb.cell 3
  have b4 := hb.cell 4
  have b5 := hb.cell 5
  clear hb
  subst h5
  go_enter Tryd.func24, Tryd.ntmps24
  go_wp2_with fail
  refine wp_loop_rounds 7 ?_
  iterate 6 (rw [rounds_succ]; go_wp2_with fail; go_quiet (fail); go_wp2_with fail)
  go_returns
  exact ⟨rfl, by repeat' (first | (with_reducible exact Below.refl _ _) | (with_reducible assumption) | (with_reducible refine below_drewN ?_ _) | (with_reducible refine Below.drew ?_) | (with_reducible refine Below.alloc ?_ ?_ _) | (with_reducible refine Below.setCell ?_ ?_ _) | go_size)⟩

set_option maxHeartbeats 1000000 in
set_option maxRecDepth 100000 in
theorem counts_ok (A1 A2 A3 A4 A5 : Option Addr) (n1 n2 n3 n4 n5 c1 c2 c3 c4 c5 ga : Nat) (w : World)
    (hb : Blk w ga 69 #[ns, .slice A1 n1 c1, .slice A2 n2 c2, .slice A3 n3 c3, .slice A4 n4 c4, .slice A5 n5 c5])
    (h1 : n1 ≤ 4096) (h2 : n2 ≤ 4096) (h3 : n3 ≤ 4096) (h4 : n4 ≤ 4096) (h5 : 0 < n5) (h6 : n5 ≤ 65535) :
    Calls Tryd.prog 24 #[.pointer (some ⟨ga, 0, none⟩)] w fun e w' => e = .returned (spotV 0 0 0 0) ∧ Below w.heap.size w w' := by
  have hga : ga < w.heap.size := hb.lt
  have b0 := hb.cell 0
  have b1 := hb.cell 1
  have b2 := hb.cell 2
  have b3 := hb.cell 3
  have b4 := hb.cell 4
  have b5 := hb.cell 5
  clear hb
  have H5 : ((n5 : Int) == 0) = false := by simp; omega
  go_enter Tryd.func24, Tryd.ntmps24
  go_wp2_with fail
  refine wp_loop_rounds 7 ?_
  iterate 6 (rw [rounds_succ]; go_wp2_with fail; go_quiet (fail); go_wp2_with fail)
  rw [rounds_succ]
  go_wp2_with fail
  go_returns
  exact ⟨rfl, by repeat' (first | (with_reducible exact Below.refl _ _) | (with_reducible assumption) | (with_reducible refine below_drewN ?_ _) | (with_reducible refine Below.drew ?_) | (with_reducible refine Below.alloc ?_ ?_ _) | (with_reducible refine Below.setCell ?_ ?_ _) | go_size)⟩

theorem counts_any (A1 A2 A3 A4 A5 : Option Addr) (n1 n2 n3 n4 n5 c1 c2 c3 c4 c5 ga : Nat) (w : World)
    (hb : Blk w ga 69 #[ns, .slice A1 n1 c1, .slice A2 n2 c2, .slice A3 n3 c3, .slice A4 n4 c4, .slice A5 n5 c5]) :
    Calls Tryd.prog 24 #[.pointer (some ⟨ga, 0, none⟩)] w fun e w' => e = .returned (spotV (if cntPart n1 n2 n3 n4 n5 = 0 then 0 else 110) (cntPart n1 n2 n3 n4 n5) 0 0) ∧ Below w.heap.size w w' := by
  unfold cntPart
  by_cases h1 : 4096 < n1
  · simpa [h1] using counts_bad1 A1 A2 A3 A4 A5 n1 n2 n3 n4 n5 c1 c2 c3 c4 c5 ga w hb h1
  by_cases h2 : 4096 < n2
  · simpa [h1, h2] using counts_bad2 A1 A2 A3 A4 A5 n1 n2 n3 n4 n5 c1 c2 c3 c4 c5 ga w hb (by omega) h2
  by_cases h3 : 4096 < n3
  · simpa [h1, h2, h3] using counts_bad3 A1 A2 A3 A4 A5 n1 n2 n3 n4 n5 c1 c2 c3 c4 c5 ga w hb (by omega) (by omega) h3
  by_cases h4 : 4096 < n4
  · simpa [h1, h2, h3, h4] using counts_bad4 A1 A2 A3 A4 A5 n1 n2 n3 n4 n5 c1 c2 c3 c4 c5 ga w hb (by omega) (by omega) (by omega) h4
  by_cases h5 : 65535 < n5
  · simpa [h1, h2, h3, h4, h5] using counts_bad5 A1 A2 A3 A4 A5 n1 n2 n3 n4 n5 c1 c2 c3 c4 c5 ga w hb (by omega) (by omega) (by omega) (by omega) h5
  by_cases h6 : n5 = 0
  · simpa [h1, h2, h3, h4, h5, h6] using counts_none A1 A2 A3 A4 A5 n1 n2 n3 n4 n5 c1 c2 c3 c4 c5 ga w hb (by omega) (by omega) (by omega) (by omega) h6
  · simpa [h1, h2, h3, h4, h5, h6] using counts_ok A1 A2 A3 A4 A5 n1 n2 n3 n4 n5 c1 c2 c3 c4 c5 ga w hb (by omega) (by omega) (by omega) (by omega) (by omega) (by omega)
end Go.Proofs.YtknnbckmdfnmaaaDoor
