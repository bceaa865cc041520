/- Contract of check.Shape. Conditions: those of check_any. -/
import Derived.Test.YtknnbckmdfnmaaaDoorCheck
namespace Go.Proofs.YtknnbckmdfnmaaaDoor
open Go.RowKit

structure Shp where
  threads : Nat
  vars : Nat
  vols : Nat
  locks : Nat
  parties : List Int
noncomputable def Prg.shape (p : Prg) : Shp := if p.check.e = 0 then ⟨p.threads.length, p.vars.length, p.vols.length, p.locks.length, p.bars.map (·.num)⟩ else ⟨0, 0, 0, 0, []⟩
def Shp.val (s : Shp) (v : Value) : Value := .agg #[.int .i64 (s.threads : Int), .int .i64 (s.vars : Int), .int .i64 (s.vols : Int), .int .i64 (s.locks : Int), v]
theorem info_int : (Tryd.prog.info? 3).map (fun i => (i.zero, i.size, i.bytes)) = some (some (.int .i64 0), 1, 8) := by kernel_rfl

theorem size_shape : (Tryd.prog.info? 52).map (·.size) = some 5 := by kernel_rfl
set_option maxHeartbeats 2000000 in
set_option maxRecDepth 100000 in
theorem shape_any (p : Prg) (w : World) (hf : p.Fits) (hin : p.In w w.heap.size) (hop : p.Ops) (gv : GV w.heap.size w) :
    Calls Tryd.prog 16 #[p.val] w fun e w' => ∃ v, e = .returned (p.shape.val v) ∧ Below w.heap.size w w' ∧ w'.ownsRow w.heap.size 3 1 v p.shape.parties.length (p.shape.parties.flatMap encZ) := by
  obtain ⟨i0, hi0, hz0, hz1, hz2⟩ := info_parts info_int
  have HF := Lib.hid hf; clear hf
  have HI := Lib.hid hin; clear hin
  have HO := Lib.hid hop; clear hop
  have HG := Lib.hid gv; clear gv
  unfold Prg.val
  by_cases he : p.check.e = 0
  · have hsh : Hid (p.shape = ⟨p.threads.length, p.vars.length, p.vols.length, p.locks.length, p.bars.map (·.num)⟩) := if_pos he
    rw [hsh.out]
    obtain ⟨er, pa, nu, at_, hck⟩ : ∃ er pa nu at_, p.check = ⟨er, pa, nu, at_⟩ := ⟨_, _, _, _, rfl⟩
    obtain rfl : er = 0 := by rw [hck] at he; exact he
    have HCK := Lib.hid hck
    clear he hck
    go_enter Tryd.func16, Tryd.ntmps16
    go_wp2_with fail
    generalize hW : World.alloc _ _ = W1
    have hb1 : Below w.heap.size w W1 := by subst hW; go_grown
    have hbox : Blk W1 w.heap.size 27 #[.slice p.Av p.vars.length p.cv, .slice p.Ao p.vols.length p.co, .slice p.Al p.locks.length p.cl, .slice p.Ab p.bars.length p.cb, .slice p.At p.threads.length p.ct] := by
      subst hW
      exact (Blk.new w _ _).alloc _
    have hsb : Blk W1 (w.heap.size + 1) 52 #[.int .i64 0, .int .i64 0, .int .i64 0, .int .i64 0, ns] := by
      subst hW
      exact (Blk.new _ _ _).moved (by simp)
    have hs1 : W1.heap.size = w.heap.size + 1 + 1 := by subst hW; simp
    clear hW
    refine (check_any p W1 HF.out ((HI.out.below hb1).more (by omega)) HO.out ((HG.out.below hb1).more (by omega))).mono ?_
    rintro e w1 ⟨rfl, hb2⟩
    rw [HCK.out]
    unfold Spot.val spotV
    have hbox1 := hbox.below hb2 hbox.lt
    have hsb1 := hsb.below hb2 hsb.lt
    clear hbox hsb
    have hw1 := hb2.size
    have hbw : Below w.heap.size w w1 := hb1.trans (hb2.mono (by omega))
    have a0 : w1.cell? ⟨w.heap.size, 0, none⟩ = some (.slice p.Av p.vars.length p.cv) := hbox1.cell 0
    have a1 : w1.cell? ⟨w.heap.size, 1, none⟩ = some (.slice p.Ao p.vols.length p.co) := hbox1.cell 1
    have a2 : w1.cell? ⟨w.heap.size, 2, none⟩ = some (.slice p.Al p.locks.length p.cl) := hbox1.cell 2
    have a3 : w1.cell? ⟨w.heap.size, 3, none⟩ = some (.slice p.Ab p.bars.length p.cb) := hbox1.cell 3
    have a4 : w1.cell? ⟨w.heap.size, 4, none⟩ = some (.slice p.At p.threads.length p.ct) := hbox1.cell 4
    have b0 : w1.cell? ⟨w.heap.size + 1, 0, none⟩ = some (.int .i64 0) := hsb1.cell 0
    have b1 : w1.cell? ⟨w.heap.size + 1, 1, none⟩ = some (.int .i64 0) := hsb1.cell 1
    have b2 : w1.cell? ⟨w.heap.size + 1, 2, none⟩ = some (.int .i64 0) := hsb1.cell 2
    have b3 : w1.cell? ⟨w.heap.size + 1, 3, none⟩ = some (.int .i64 0) := hsb1.cell 3
    have b4 : w1.cell? ⟨w.heap.size + 1, 4, none⟩ = some ns := hsb1.cell 4
    have hlx : w.heap.size < w1.heap.size := hbox1.lt
    have hly : w.heap.size + 1 < w1.heap.size := hsb1.lt
    have f0 := hsb1.frozen 0
    have f1 := hsb1.frozen 1
    have f2 := hsb1.frozen 2
    have f3 := hsb1.frozen 3
    have f4 := hsb1.frozen 4
    go_wp2_with fail
    generalize hW2 : World.alloc _ _ = W2
    have hb3 : Below w1.heap.size w1 W2 := by subst hW2; go_grown
    have hs2 : W2.heap.size = w1.heap.size + 1 + 1 := by subst hW2; simp
    have HS2 : Hid (Blk W2 (w1.heap.size + 1) 52 #[.int .i64 p.threads.length, .int .i64 p.vars.length, .int .i64 p.vols.length, .int .i64 p.locks.length, ns]) := by
      subst hW2
      exact (Blk.new _ _ _).moved (by simp)
    have HR2 := Lib.hid (hsb1.below hb3 hsb1.lt)
    clear hW2 hbox1 hsb1
    have hb24 : p.bars.length * 24 ≤ 140737488351232 := HF.out.bars
    go_loopw [32] (fun i wr => ∃ (k : Nat) (A : Option Addr) (c : Nat), k ≤ p.bars.length ∧ i = .int .i64 k ∧ Blk wr (w1.heap.size + 1) 52 #[.int .i64 p.threads.length, .int .i64 p.vars.length, .int .i64 p.vols.length, .int .i64 p.locks.length, .slice A k c] ∧ wr.ownsRow W2.heap.size 3 1 (.slice A k c) k ((p.bars.take k).map fun x => Value.int .i64 x.num) ∧ W2.grownBy wr (some (w1.heap.size + 1))) (fun i _ => p.bars.length - (intOf i).toNat)
    case atStart => exact ⟨0, none, 0, by omega, rfl, HS2.out, ⟨rfl, .inl ⟨rfl, rfl⟩⟩, World.grownBy.refl _ _⟩
    case round =>
      obtain ⟨k, A1, c1, hk, rfl, hblk, hown, hg⟩ := hrel
      have HB := Lib.hid hblk; clear hblk
      have hWr : W2.heap.size ≤ wr.heap.size := hg.size
      by_cases hlt : k < p.bars.length
      · obtain ⟨x, hx⟩ := get_some hlt
        obtain ⟨g, off, hA, hgB, q0, q1⟩ := (((HI.out.bars).below (hbw.trans (hb3.mono (by omega)))).only hg (by omega) (by omega)).nam hx
        have e1 : wr.cell? ⟨w1.heap.size + 1, 4, none⟩ = some (.slice A1 k c1) := HB.out.cell 4
        have hs : w1.heap.size + 1 < wr.heap.size := HB.out.lt
        have HX := Lib.hid hx
        rw [hA]
        clear hA hx
        go_wp2_with (at_builtin; go_must (refine wpList_append_one rfl (.tmp 37) (.tmp 40) _ rfl _ _ W2.heap.size 3 i0 _ 1 8 Tryd.underlying50 hi0 hz0 hz1 hz2 rfl (by omega) (.slice A1 k c1) k _ (by rfl) _ (by rfl) (by simp) (by rfl) (by simp [Value.oneCell']) (by exact hown.alloc _) (by simp only [maxLen]; omega) (by omega) (by simp; omega) ?_); intro g1 k1 w3 hown1 hg1 hat1 hbg1 hgl1; have hb1 := (HB.out.alloc _).grown hg1 (own_blk_lt hown (by omega)); have e2 := hb1.cell 4; have f2 := hb1.frozen 4; have HB1 := Lib.hid hb1; clear hb1)
        go_roundw
        case rel =>
          refine ⟨k + 1, _, _, by omega, by go_num, HB1.out.set_ 4 _, ?_, only_setCell (only_grown (only_alloc hg _) hg1 ?_) (.inl rfl) _⟩
          · have htk : (p.bars.take (k + 1)).map (fun y => Value.int .i64 y.num) = (p.bars.take k).map (fun y => Value.int .i64 y.num) ++ [Value.int .i64 x.num] := by rw [List.take_add_one, HX.out]; simp
            rw [htk]
            exact ownsRow_setCell_other hown1 (by simp [Value.ownBlock]; omega) _
          · intro j hj
            exact .inr (hown.lt j hj).1
        case measure => simp [intOf]; omega
      · obtain rfl : k = p.bars.length := by omega
        clear hk hlt
        obtain ⟨W3, rfl⟩ : ∃ x : World, x = wr := ⟨_, rfl⟩
        have hres := HR2.out.only hg (by omega)
        have c0 : W3.cell? ⟨w1.heap.size + 1, 0, none⟩ = some (.int .i64 p.threads.length) := HB.out.cell 0
        have c1' : W3.cell? ⟨w1.heap.size + 1, 1, none⟩ = some (.int .i64 p.vars.length) := HB.out.cell 1
        have c2 : W3.cell? ⟨w1.heap.size + 1, 2, none⟩ = some (.int .i64 p.vols.length) := HB.out.cell 2
        have c3 : W3.cell? ⟨w1.heap.size + 1, 3, none⟩ = some (.int .i64 p.locks.length) := HB.out.cell 3
        have c4 : W3.cell? ⟨w1.heap.size + 1, 4, none⟩ = some (.slice A1 p.bars.length c1) := HB.out.cell 4
        have d0 : W3.cell? ⟨w.heap.size + 1, 0, none⟩ = some (.int .i64 0) := hres.cell 0
        have d1 : W3.cell? ⟨w.heap.size + 1, 1, none⟩ = some (.int .i64 0) := hres.cell 1
        have d2 : W3.cell? ⟨w.heap.size + 1, 2, none⟩ = some (.int .i64 0) := hres.cell 2
        have d3 : W3.cell? ⟨w.heap.size + 1, 3, none⟩ = some (.int .i64 0) := hres.cell 3
        have d4 : W3.cell? ⟨w.heap.size + 1, 4, none⟩ = some ns := hres.cell 4
        have e0 := hres.frozen 0
        have e1 := hres.frozen 1
        have e2 := hres.frozen 2
        have e3 := hres.frozen 3
        have e4 := hres.frozen 4
        go_wp2_with fail
        have hlist : (p.bars.take p.bars.length).map (fun y => Value.int .i64 y.num) = (p.bars.map (·.num)).flatMap encZ := by
          rw [List.take_of_length_le (Nat.le_refl _)]
          induction p.bars with
          | nil => rfl
          | cons a r ih => simp only [List.map_cons, List.flatMap_cons, ih]; rfl
        rw [hlist] at hown
        have hlt2 : w.heap.size + 1 < W2.heap.size := by omega
        have hbw3 : Below w.heap.size w W3 := (hbw.trans (hb3.mono (by omega))).grown hg (by omega) (by intro q hq; injection hq; omega)
        try simp only [Exit.inBlock, Exit.then]
        refine bodyPost_ret (v := Shp.val ⟨p.threads.length, p.vars.length, p.vols.length, p.locks.length, p.bars.map (·.num)⟩ (.slice A1 p.bars.length c1)) ?_ rfl ?_
        · exact results_cell_row rfl _ _ (w.heap.size + 1) 52 _ (0, 0) _ rfl (((((hres.set_ 0 _).set_ 1 _).set_ 2 _).set_ 3 _).set_ 4 _) Tryd.underlying52 rfl size_shape
        refine ⟨_, rfl, by repeat' (first | (with_reducible exact Below.refl _ _) | (with_reducible assumption) | (with_reducible refine below_drewN ?_ _) | (with_reducible refine Below.drew ?_) | (with_reducible refine Below.alloc ?_ ?_ _) | (with_reducible refine Below.setCell ?_ ?_ _) | go_size), ?_⟩
        have hne : ∀ j, (Value.slice A1 p.bars.length c1).ownBlock = some j → W2.heap.size ≤ j := fun j hj => (hown.lt j hj).1
        have hne2 : (Value.slice A1 p.bars.length c1).ownBlock ≠ some (w.heap.size + 1) := fun h => by have := hne _ h; omega
        rw [List.length_map]
        refine own_base (base := W2.heap.size) ?_ (by omega)
        refine ownsRow_setCell_other (ownsRow_setCell_other (ownsRow_setCell_other (ownsRow_setCell_other (ownsRow_setCell_other hown ?_ _) ?_ _) ?_ _) ?_ _) ?_ _
        all_goals exact hne2
  · have hsh : Hid (p.shape = ⟨0, 0, 0, 0, []⟩) := if_neg he
    rw [hsh.out]
    obtain ⟨er, pa, nu, at_, hck⟩ : ∃ er pa nu at_, p.check = ⟨er, pa, nu, at_⟩ := ⟨_, _, _, _, rfl⟩
    have her : (er != 0) = true := by rw [bne_iff_ne]; rw [hck] at he; exact he
    have HCK := Lib.hid hck
    clear he hck
    go_enter Tryd.func16, Tryd.ntmps16
    go_wp2_with fail
    generalize hW : World.alloc _ _ = W1
    have hb1 : Below w.heap.size w W1 := by subst hW; go_grown
    have hbox : Blk W1 w.heap.size 27 #[.slice p.Av p.vars.length p.cv, .slice p.Ao p.vols.length p.co, .slice p.Al p.locks.length p.cl, .slice p.Ab p.bars.length p.cb, .slice p.At p.threads.length p.ct] := by
      subst hW
      exact (Blk.new w _ _).alloc _
    have hsb : Blk W1 (w.heap.size + 1) 52 #[.int .i64 0, .int .i64 0, .int .i64 0, .int .i64 0, ns] := by
      subst hW
      exact (Blk.new _ _ _).moved (by simp)
    have hs1 : W1.heap.size = w.heap.size + 1 + 1 := by subst hW; simp
    clear hW
    refine (check_any p W1 HF.out ((HI.out.below hb1).more (by omega)) HO.out ((HG.out.below hb1).more (by omega))).mono ?_
    rintro e w1 ⟨rfl, hb2⟩
    rw [HCK.out]
    unfold Spot.val spotV
    have hbox1 := hbox.below hb2 hbox.lt
    have hsb1 := hsb.below hb2 hsb.lt
    clear hbox hsb
    have hw1 := hb2.size
    have hbw : Below w.heap.size w w1 := hb1.trans (hb2.mono (by omega))
    have b0 : w1.cell? ⟨w.heap.size + 1, 0, none⟩ = some (.int .i64 0) := hsb1.cell 0
    have b1 : w1.cell? ⟨w.heap.size + 1, 1, none⟩ = some (.int .i64 0) := hsb1.cell 1
    have b2 : w1.cell? ⟨w.heap.size + 1, 2, none⟩ = some (.int .i64 0) := hsb1.cell 2
    have b3 : w1.cell? ⟨w.heap.size + 1, 3, none⟩ = some (.int .i64 0) := hsb1.cell 3
    have b4 : w1.cell? ⟨w.heap.size + 1, 4, none⟩ = some ns := hsb1.cell 4
    have hly : w.heap.size + 1 < w1.heap.size := hsb1.lt
    have f0 := hsb1.frozen 0
    have f1 := hsb1.frozen 1
    have f2 := hsb1.frozen 2
    have f3 := hsb1.frozen 3
    have f4 := hsb1.frozen 4
    go_wp2_with fail
    try simp only [Exit.inBlock, Exit.then]
    refine bodyPost_ret (v := Shp.val ⟨0, 0, 0, 0, []⟩ ns) ?_ rfl ?_
    · exact results_cell_row rfl _ _ (w.heap.size + 1) 52 _ (0, 0) _ rfl ((((((hsb1.set_ 0 _).set_ 1 _).set_ 2 _).set_ 3 _).set_ 4 _).alloc _) Tryd.underlying52 rfl size_shape
    exact ⟨_, rfl, by repeat' (first | (with_reducible exact Below.refl _ _) | (with_reducible assumption) | (with_reducible refine below_drewN ?_ _) | (with_reducible refine Below.drew ?_) | (with_reducible refine Below.alloc ?_ ?_ _) | (with_reducible refine Below.setCell ?_ ?_ _) | go_size), World.ownsRow_nil _ _ _ _⟩
end Go.Proofs.YtknnbckmdfnmaaaDoor
