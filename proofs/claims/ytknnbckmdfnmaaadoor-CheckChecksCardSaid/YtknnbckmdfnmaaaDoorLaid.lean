/- What the rows' condition on package variables gives (GV); a world that meets it: the heap that the program's own start leaves. -/
import Derived.Test.YtknnbckmdfnmaaaDoorRows
import Derived.Test.YtknnbckmdfnmaaaDoorOpen
import Derived.LaidMore
import Derived.LaidLaws
import Derived.LaidHandle
import Derived.ChangeSame
import Derived.ChangeVars
import Derived.JoinedOf
import Derived.Carry
import Derived.RowKitTokens
import Derived.OpenShut
import Derived.Stop.Joined
namespace Go.Proofs.YtknnbckmdfnmaaaDoor
open Go.ChangeShapes Go.WideShapes Go.RowKit

theorem own_ : ownKnob Tryd.prog.godebug = none := by kernel_rfl
theorem gSyn : Tryd.prog.globalNamed "strconv.ErrSyntax" = some 0 := by kernel_rfl
theorem gRng : Tryd.prog.globalNamed "strconv.ErrRange" = some 1 := by kernel_rfl
theorem tSyn : (Tryd.prog.globals[0]?).map (·.type) = some 107 := by kernel_rfl
theorem tRng : (Tryd.prog.globals[1]?).map (·.type) = some 107 := by kernel_rfl
theorem laidOut_ : laidOutB Tryd.prog = true := by kernel_rfl
theorem door_met (os : Os) (args : Array Value) : laidMetH Tryd.prog Rows.checkNamesRow.laid ((World.doorLaid Tryd.prog 62 os).forCall (fun _ _ => 0) ⟨#[], args, []⟩).memory :=
  laidMetH_of_parts3 (fuel := 8) (laidMet_of_run' 8 (by kernel_rfl) (by kernel_rfl)) (by kernel_rfl) (by kernel_rfl)
theorem block_lt {W : World} {b o : Nat} {e : Value} (h : W.cell? ⟨b, o, none⟩ = some e) : b < W.heap.size := by
  rcases Nat.lt_or_ge b W.heap.size with hl | hl
  · exact hl
  · unfold World.cell? at h
    rw [Array.getElem?_eq_none hl] at h
    cases h
theorem gv_of_laid {W : World} (h : laidMetH Tryd.prog Rows.checkNamesRow.laid W) : GV W.heap.size W := by
  rw [MakeChecks.laidMetH_plain _ _ _ (by kernel_rfl)] at h
  obtain ⟨ps, ⟨_, _, _, _, _, _, _, _, _, _, ⟨_, _, _, _, _, _, _, _, _, _, ⟨_, _, _, _, _, _, _, _, _, _, ⟨g3, t3, cs3, f3, p3, q3, hg3, ht3, hv3, hd3, ⟨g4, t4, cs4, f4, p4, q4, hg4, ht4, hv4, hd4, _, _⟩, _⟩, _⟩, _⟩, _⟩, _, _⟩ := h
  obtain rfl := Option.some.inj (gRng.symm.trans hg3)
  obtain rfl := Option.some.inj (gSyn.symm.trans hg4)
  obtain rfl := Option.some.inj (tRng.symm.trans ht3)
  obtain rfl := Option.some.inj (tSyn.symm.trans ht4)
  obtain ⟨_, u3, v3, e3, _, _⟩ := iface_of_trod Tryd.underlying107 hd3
  obtain ⟨_, u4, v4, e4, _, _⟩ := iface_of_trod Tryd.underlying107 hd4
  have c3 := World.var?_cell hg3 hv3 0
  have c4 := World.var?_cell hg4 hv4 0
  rw [Array.eq_one_of_toList e3] at c3
  rw [Array.eq_one_of_toList e4] at c4
  have c3' : W.cell? ⟨1, 0, none⟩ = some (.iface u3 v3) := by simpa using c3
  have c4' : W.cell? ⟨0, 0, none⟩ = some (.iface u4 v4) := by simpa using c4
  exact ⟨block_lt c4', block_lt c3', ⟨_, c4', .inr ⟨_, _, rfl⟩⟩, ⟨_, c3', .inr ⟨_, _, rfl⟩⟩⟩
end Go.Proofs.YtknnbckmdfnmaaaDoor
