/- Contract of abreastlaw11.found: true. Conditions: those of find_any. -/
import Derived.Test.YtknnbckmdfnmaaaDoorFind
import Derived.Test.YtknnbckmdfnmaaaDoorShape
namespace Go.Proofs.YtknnbckmdfnmaaaDoor
open Go.RowKit

set_option maxHeartbeats 1000000 in
set_option maxRecDepth 100000 in
theorem found_any (p : Prg) (s : ByteArray) (w : World) (hf : p.Fits) (hin : p.In w w.heap.size) :
    Calls Tryd.prog 21 #[p.val, .string s] w fun e w' => e = .returned (.bool true) ∧ Below w.heap.size w w' := by
  have HF := Lib.hid hf; clear hf
  have HI := Lib.hid hin; clear hin
  obtain ⟨r, hr⟩ : ∃ r, findP p.names s 5 1 = r := ⟨_, rfl⟩
  have HR := Lib.hid hr; clear hr
  unfold Prg.val
  go_enter Tryd.func21, Tryd.ntmps21
  go_wp2_with fail
  generalize hW : World.alloc _ _ = W1
  have hb1 : Below w.heap.size w W1 := by subst hW; go_grown
  have hs1 : w.heap.size + 1 ≤ W1.heap.size := by subst hW; simp
  have hbox : Blk W1 w.heap.size 27 #[.slice p.Av p.vars.length p.cv, .slice p.Ao p.vols.length p.co, .slice p.Al p.locks.length p.cl, .slice p.Ab p.bars.length p.cb, .slice p.At p.threads.length p.ct] := by
    subst hW
    exact Blk.new w _ _
  clear hW
  refine (find_any p s W1 HF.out ((HI.out.below hb1).more (by omega))).mono ?_
  rintro e w1 ⟨rfl, hb2⟩
  rw [HR.out]
  have hw1 := hb2.size
  have hbw : Below w.heap.size w w1 := hb1.trans (hb2.mono (by omega))
  have hbox1 := hbox.below hb2 hbox.lt
  have d0 : w1.cell? ⟨w.heap.size, 0, none⟩ = some (.slice p.Av p.vars.length p.cv) := hbox1.cell 0
  have d1 : w1.cell? ⟨w.heap.size, 1, none⟩ = some (.slice p.Ao p.vols.length p.co) := hbox1.cell 1
  have d2 : w1.cell? ⟨w.heap.size, 2, none⟩ = some (.slice p.Al p.locks.length p.cl) := hbox1.cell 2
  have d3 : w1.cell? ⟨w.heap.size, 3, none⟩ = some (.slice p.Ab p.bars.length p.cb) := hbox1.cell 3
  have d4 : w1.cell? ⟨w.heap.size, 4, none⟩ = some (.slice p.At p.threads.length p.ct) := hbox1.cell 4
  clear hbox hbox1
  rcases r with _ | ⟨a, i⟩
  all_goals
    unfold findV
    go_wp2_with (go_at_call 33; refine (refFind_any p s w1 HF.out ((HI.out.below hbw).more (by omega))).mono ?_; rintro e w2 ⟨rfl, hb3⟩; rw [HR.out]; unfold findV)
    go_ret
    exact ⟨ret_bool (by simp), hbw.trans (hb3.mono (by omega))⟩
end Go.Proofs.YtknnbckmdfnmaaaDoor
