/- What the rows' condition on package variables gives (GV); a world that meets it: the heap that the program's own start leaves. -/
import Derived.Test.YtgdnpmpnkbnjaaaGreatDoorZOpen
import Derived.Test.YtgdnpmpnkbnjaaaGreatDoorZKnown
import Derived.Test.YtgdnpmpnkbnjaaaGreatDoorRows
import Derived.LaidMore
import Derived.LaidLaws
import Derived.LaidHandle
import Derived.ChangeSame
import Derived.ChangeVars
import Derived.JoinedOf
import Derived.Carry
import Derived.RowKitTokens
import Derived.OpenShut
import Derived.Stop.Joined
namespace Go.Proofs.YtgdnpmpnkbnjaaaGreatDoor
open Go.ChangeShapes Go.WideShapes Go.RowKit

theorem own_ : ownKnob Tryz.prog.godebug = none := by kernel_rfl
theorem gSyn : Tryz.prog.globalNamed "strconv.ErrSyntax" = some 1 := by kernel_rfl
theorem gRng : Tryz.prog.globalNamed "strconv.ErrRange" = some 2 := by kernel_rfl
theorem tSyn : (Tryz.prog.globals[1]?).map (·.type) = some 159 := by kernel_rfl
theorem tRng : (Tryz.prog.globals[2]?).map (·.type) = some 159 := by kernel_rfl
theorem laidOut_ : laidOutB Tryz.prog = true := by kernel_rfl
theorem door_met (os : Os) (args : Array Value) : laidMetH Tryz.prog Rows.flowAloneRow.laid ((World.doorLaid Tryz.prog 62 os).forCall (fun _ _ => 0) ⟨#[], args, []⟩).memory :=
  laidMetH_of_parts3 (fuel := 8) (laidMet_of_run' 8 (by kernel_rfl) (by kernel_rfl)) (by kernel_rfl) (by kernel_rfl)
theorem block_lt {W : World} {b o : Nat} {e : Value} (h : W.cell? ⟨b, o, none⟩ = some e) : b < W.heap.size := by
  rcases Nat.lt_or_ge b W.heap.size with hl | hl
  · exact hl
  · unfold World.cell? at h
    rw [Array.getElem?_eq_none hl] at h
    cases h
theorem gv_of_laid {W : World} (h : laidMetH Tryz.prog Rows.flowAloneRow.laid W) : GV W.heap.size W := by
  rw [MakeChecks.laidMetH_plain _ _ _ (by kernel_rfl)] at h
  obtain ⟨ps, ⟨_, _, _, _, _, _, _, _, _, _, ⟨_, _, _, _, _, _, _, _, _, _, ⟨_, _, _, _, _, _, _, _, _, _, ⟨g3, t3, cs3, f3, p3, q3, hg3, ht3, hv3, hd3, ⟨g4, t4, cs4, f4, p4, q4, hg4, ht4, hv4, hd4, _, _⟩, _⟩, _⟩, _⟩, _⟩, _, _⟩ := h
  obtain rfl := Option.some.inj (gRng.symm.trans hg3)
  obtain rfl := Option.some.inj (gSyn.symm.trans hg4)
  obtain rfl := Option.some.inj (tRng.symm.trans ht3)
  obtain rfl := Option.some.inj (tSyn.symm.trans ht4)
  obtain ⟨_, u3, v3, e3, _, _⟩ := iface_of_trod Tryz.underlying159 hd3
  obtain ⟨_, u4, v4, e4, _, _⟩ := iface_of_trod Tryz.underlying159 hd4
  have c3 := World.var?_cell hg3 hv3 0
  have c4 := World.var?_cell hg4 hv4 0
  rw [Array.eq_one_of_toList e3] at c3
  rw [Array.eq_one_of_toList e4] at c4
  have c3' : W.cell? ⟨2, 0, none⟩ = some (.iface u3 v3) := by simpa using c3
  have c4' : W.cell? ⟨1, 0, none⟩ = some (.iface u4 v4) := by simpa using c4
  exact ⟨block_lt c4', block_lt c3', ⟨_, c4', .inr ⟨_, _, rfl⟩⟩, ⟨_, c3', .inr ⟨_, _, rfl⟩⟩⟩
theorem tTab : (Tryz.prog.globals[0]?).map (·.type) = some 123 := by kernel_rfl
theorem tab_datum {H : Type} : (Rows.laid_math_bits_deBruijn64tab : DataW H) = .agg (Lib.deBruijn64tab.map fun n : Nat => .lit (.int .u8 (n : Int))) := rfl
theorem tab_of_laid {W : World} (h : laidMetH Tryz.prog Rows.flowAloneRow.laid W) : Tab W := by
  rw [MakeChecks.laidMetH_plain _ _ _ (by kernel_rfl)] at h
  obtain ⟨ps, ⟨_, _, _, _, _, _, _, _, _, _, ⟨g2, t2, cs2, f2, p2, q2, hg2, ht2, hv2, hd2, _, _⟩, _⟩, _⟩ := h
  obtain rfl : 0 = g2 := (Option.some.inj ((hg2.symm.trans (by kernel_rfl)) : some g2 = some 0)).symm
  obtain rfl := Option.some.inj (tTab.symm.trans ht2)
  obtain ⟨xs, m, _, hx, hl, hlen, hf⟩ := DataW.trod_array (n := 64) (e := 5) Tryz.underlying123 hd2
  rw [tab_datum] at hx
  have hxs : xs.map (·.1) = Lib.deBruijn64tab.map fun n : Nat => (DataW.lit (.int .u8 (n : Int)) : DataW _) := by
    have := (Prod.mk.inj hx).1
    injection this with this
    exact this.symm
  intro j hj
  have hj64 : j < 64 := hj
  have h1 := hf j hj64
  rw [show Tryz.prog.cellsOf 5 = 1 by kernel_rfl, Nat.mul_one] at h1
  obtain ⟨y, hy⟩ := get_some (l := xs) (k := j) (by omega)
  rw [hy] at h1
  obtain ⟨v, e1, e2, _⟩ := DataW.trod_int Tryz.underlying5 h1
  have h2 : (xs.map (·.1))[j]? = some (DataW.lit (.int .u8 v)) := by rw [List.getElem?_map, hy, e2]; rfl
  obtain ⟨n, hn⟩ := get_some (l := Lib.deBruijn64tab) (k := j) hj
  rw [hxs, List.getElem?_map, hn] at h2
  have h3 := Option.some.inj h2
  injection h3 with h3
  injection h3 with _ h3
  have hc := World.var?_cell hg2 hv2 j
  rw [List.getD_eq_getElem?_getD, hn]
  show W.cell? ⟨0, j, none⟩ = some (.int .u8 (n : Int))
  rw [hc, h3]
  have h4 : cs2.toList[j]? = some (.int .u8 v) := by
    have h5 : ((cs2.toList.drop j).take 1)[0]? = some (.int .u8 v) := by rw [e1]; rfl
    rw [List.getElem?_take, if_pos (by omega), List.getElem?_drop, Nat.add_zero] at h5
    exact h5
  simpa using h4
theorem env0_of_laid {W : World} (h : laidMetH Tryz.prog Rows.flowAloneRow.laid W) : Env0 W := by
  have hg := gv_of_laid h
  exact ⟨hg, tab_of_laid h, Nat.lt_of_le_of_lt (Nat.zero_le _) hg.1⟩
end Go.Proofs.YtgdnpmpnkbnjaaaGreatDoor
