/- Contract of abreastlaw11.lives: true. Condition: the package variables that parse's numbers read. -/
import Derived.Test.YtknnbckmdfnmaaaDoorLivesD
import Derived.Test.YtknnbckmdfnmaaaDoorShape
namespace Go.Proofs.YtknnbckmdfnmaaaDoor
open Go.RowKit

theorem small_shape (a b t : Nat) : (smallP 20 a b t).shape = ⟨1, 0, 0, 0, []⟩ := by
  unfold Prg.shape
  rw [small_20]
  rfl
theorem num_any (n : Int) (w : World) : Calls Tryd.prog 10 #[.int .i64 n] w fun e w' => e = .returned (.int .i64 n) ∧ w = w' := by
  go_enter Tryd.func10, Tryd.ntmps10
  go_wp2
  go_ret
  exact ⟨rfl, rfl⟩
theorem SmallAt.below {op : Int} {w w' : World} {a b t B : Nat} (h : SmallAt op w a b t) (hb : Below B w w') (ha : a < B) (hb' : b < B) (ht : t < B) : SmallAt op w' a b t := ⟨h.code.below hb ha, h.places.below hb hb', h.thr.below hb ht⟩
set_option maxHeartbeats 2000000 in
set_option maxRecDepth 100000 in
theorem lives_any (w : World) (gv : GV w.heap.size w) :
    Calls Tryd.prog 14 #[] w fun e w' => e = .returned (.bool true) ∧ Below w.heap.size w w' := by
  have HG := Lib.hid gv; clear gv
  go_enter Tryd.func14, Tryd.ntmps14
  go_wp2_with fail
  refine (small_any _).mono ?_
  rintro e w1 ⟨rfl, hb1, hs1⟩
  have hw1 := hs1.thr.lt
  have hval : ∀ op a b t, (smallP op a b t).val = .agg #[ns, ns, ns, ns, .slice (some ⟨t, 0, none⟩) 1 1] := fun _ _ _ _ => rfl
  rw [hval]
  go_wp2_with fail
  generalize hW : World.alloc _ _ = W2
  have hb2 : Below w1.heap.size w1 W2 := by subst hW; go_grown
  have hbox : Blk W2 w1.heap.size 27 #[ns, ns, ns, ns, .slice (some ⟨w.heap.size + 1 + 1 + 1, 0, none⟩) 1 1] := by
    subst hW
    exact Blk.new _ _ _
  have hs2 := hs1.below hb2 (by omega) (by omega) (by omega)
  have hw2 : w1.heap.size + 1 ≤ W2.heap.size := by subst hW; simp
  clear hW
  have hB2 : Below w.heap.size w W2 := hb1.trans (hb2.mono (by omega))
  refine (check_any (smallP 20 (w.heap.size + 1) (w.heap.size + 1 + 1) (w.heap.size + 1 + 1 + 1)) W2 (small_fits ..) (small_in hs2) (small_ops 20 (.inl rfl) _ _ _) ((HG.out.below hB2).more (by omega))).mono ?_
  rintro e w3 ⟨rfl, hb3⟩
  rw [small_20]
  unfold Spot.val spotV
  have hw3 := hb3.size
  have hbox3 := hbox.below hb3 hbox.lt
  have hs3 := hs2.below hb3 (by omega) (by omega) (by omega)
  have hB3 : Below w.heap.size w w3 := hB2.trans (hb3.mono (by omega))
  go_wp2_with fail
  generalize hW : World.alloc _ _ = W4
  have hb4 : Below w3.heap.size w3 W4 := by subst hW; go_grown
  have hw4 : w3.heap.size + 1 ≤ W4.heap.size := by subst hW; simp
  have hspot : Blk W4 w3.heap.size 32 #[.int .i64 0, .int .i64 0, .int .i64 0] := by
    subst hW
    exact Blk.new _ _ _
  clear hW
  have hbox4 := hbox3.below hb4 hbox3.lt
  have hs4 := hs3.below hb4 (by omega) (by omega) (by omega)
  have hB4 : Below w.heap.size w W4 := hB3.trans (hb4.mono (by omega))
  clear hbox hbox3 hs2 hs3 hB2 hB3
  refine (small_any W4).mono ?_
  rintro e w5 ⟨rfl, hb5, hs5⟩
  have hw5 := hs5.thr.lt
  have hbox5 := hbox4.below hb5 hbox4.lt
  have hspot5 := hspot.below hb5 hspot.lt
  have hs5p := hs4.below hb5 (by omega) (by omega) (by omega)
  have hB5 : Below w.heap.size w w5 := hB4.trans (hb5.mono (by omega))
  clear hbox4 hspot hs4 hB4
  have t0 : w5.cell? ⟨W4.heap.size + 1 + 1 + 1, 0, none⟩ = some (.string { data := #[116] }) := hs5.thr.cell 0
  have t1 : w5.cell? ⟨W4.heap.size + 1 + 1 + 1, 1, none⟩ = some (.slice (some ⟨W4.heap.size + 1, 0, none⟩) 1 1) := hs5.thr.cell 1
  have k0 : w5.cell? ⟨W4.heap.size + 1, 0, none⟩ = some (.int .i64 20) := hs5.code.cell 0
  have k1 : w5.cell? ⟨W4.heap.size + 1, 1, none⟩ = some (.int .i64 0) := hs5.code.cell 1
  have k2 : w5.cell? ⟨W4.heap.size + 1, 2, none⟩ = some (.int .i64 0) := hs5.code.cell 2
  have k3 : w5.cell? ⟨W4.heap.size + 1, 3, none⟩ = some (.int .i64 0) := hs5.code.cell 3
  have k4 : w5.cell? ⟨W4.heap.size + 1, 4, none⟩ = some (.int .i64 0) := hs5.code.cell 4
  have f0 := hs5.code.frozen 0
  have f1 := hs5.code.frozen 1
  have f2 := hs5.code.frozen 2
  have f3 := hs5.code.frozen 3
  have f4 := hs5.code.frozen 4
  have hlc : W4.heap.size + 1 < w5.heap.size := by omega
  rw [hval]
  go_wp2_with fail
  generalize hW : World.alloc _ _ = W6
  have hb6 : Below W4.heap.size w5 W6 := by
    subst hW
    repeat' (first | (with_reducible exact Below.refl _ _) | (with_reducible assumption) | (with_reducible refine Below.alloc ?_ ?_ _) | (with_reducible refine Below.setCell ?_ ?_ _) | go_size)
  have hs6 : SmallAt 10 W6 (W4.heap.size + 1) (W4.heap.size + 1 + 1) (W4.heap.size + 1 + 1 + 1) := by
    subst hW
    refine ⟨(((((hs5.code.set_ 0 _).set_ 1 _).set_ 2 _).set_ 3 _).set_ 4 _).alloc _, (((((hs5.places.far ?_ _).far ?_ _).far ?_ _).far ?_ _).far ?_ _).alloc _, (((((hs5.thr.far ?_ _).far ?_ _).far ?_ _).far ?_ _).far ?_ _).alloc _⟩
    all_goals (dsimp only; omega)
  have hbox6 : Blk W6 w5.heap.size 27 #[ns, ns, ns, ns, .slice (some ⟨W4.heap.size + 1 + 1 + 1, 0, none⟩) 1 1] := by
    subst hW
    exact (Blk.new _ _ _).moved (by simp)
  have hw6 : w5.heap.size + 1 ≤ W6.heap.size := by subst hW; simp
  clear hW t0 t1 k0 k1 k2 k3 k4 f0 f1 f2 f3 f4 hs5
  have hpbox6 := hbox5.below hb6 (by have := hb3.size; have := hb4.size; omega)
  have hspot6 := hspot5.below hb6 (by omega)
  have hs6p := hs5p.below hb6 (by have := hb3.size; omega) (by have := hb3.size; omega) (by have := hb3.size; omega)
  have hB6 : Below w.heap.size w W6 := hB5.trans (hb6.mono (by have := hb3.size; omega))
  refine (check_any (smallP 10 (W4.heap.size + 1) (W4.heap.size + 1 + 1) (W4.heap.size + 1 + 1 + 1)) W6 (small_fits ..) (small_in hs6) (small_ops 10 (.inr rfl) _ _ _) ((HG.out.below hB6).more (by have := hB6.size; omega))).mono ?_
  rintro e w7 ⟨rfl, hb7⟩
  rw [small_10]
  unfold Spot.val spotV
  have hw7 := hb7.size
  have hpbox7 := hpbox6.below hb7 hpbox6.lt
  have hspot7 := hspot6.below hb7 hspot6.lt
  have hs7p := hs6p.below hb7 hs6p.code.lt hs6p.places.lt hs6p.thr.lt
  have hB7 : Below w.heap.size w w7 := hB6.trans (hb7.mono (by have := hB6.size; omega))
  have p0 : w7.cell? ⟨w1.heap.size, 0, none⟩ = some ns := hpbox7.cell 0
  have p1 : w7.cell? ⟨w1.heap.size, 1, none⟩ = some ns := hpbox7.cell 1
  have p2 : w7.cell? ⟨w1.heap.size, 2, none⟩ = some ns := hpbox7.cell 2
  have p3 : w7.cell? ⟨w1.heap.size, 3, none⟩ = some ns := hpbox7.cell 3
  have p4 : w7.cell? ⟨w1.heap.size, 4, none⟩ = some (.slice (some ⟨w.heap.size + 1 + 1 + 1, 0, none⟩) 1 1) := hpbox7.cell 4
  have g0 : w7.cell? ⟨w3.heap.size, 0, none⟩ = some (.int .i64 0) := hspot7.cell 0
  have g1 : w7.cell? ⟨w3.heap.size, 1, none⟩ = some (.int .i64 0) := hspot7.cell 1
  have g2 : w7.cell? ⟨w3.heap.size, 2, none⟩ = some (.int .i64 0) := hspot7.cell 2
  have hl1 : w1.heap.size < w7.heap.size := hpbox7.lt
  have hl3 : w3.heap.size < w7.heap.size := hspot7.lt
  have hsh : ∀ W : World, Below w7.heap.size w7 W → SmallAt 20 W (w.heap.size + 1) (w.heap.size + 1 + 1) (w.heap.size + 1 + 1 + 1) ∧ GV W.heap.size W ∧ Below w.heap.size w W := fun W hb =>
    have hbW := hB7.trans (hb.mono (by have := hB7.size; omega))
    ⟨hs7p.below hb hs7p.code.lt hs7p.places.lt hs7p.thr.lt, (HG.out.below hbW).more hbW.size, hbW⟩
  have HSH := Lib.hid hsh
  clear hsh
  go_wp2_with (go_at_call 10; refine (num_any _ _).mono ?_; rintro e w8 ⟨rfl, rfl⟩)
  have h8 := HSH.out _ ((Below.refl _ _).alloc (Nat.le_refl _) (.cells #[.int .i64 5, .int .i64 0, .int .i64 0] 32))
  refine (shape_any (smallP 20 (w.heap.size + 1) (w.heap.size + 1 + 1) (w.heap.size + 1 + 1 + 1)) _ (small_fits ..) (small_in h8.1) (small_ops 20 (.inl rfl) _ _ _) h8.2.1).mono ?_
  rintro e w8 ⟨v8, rfl, hb8, ho8⟩
  obtain ⟨A8, c8, rfl⟩ := own_form ho8
  rw [small_shape]
  unfold Shp.val
  have hfd : (Instr.field 52 (.agg #[.int .i64 1, .int .i64 0, .int .i64 0, .int .i64 0, .slice A8 0 c8]) 0).run Tryd.prog w8 = .ok (.int .i64 1) w8 := by kernel_rfl
  go_wp2_with fail
  go_ret
  exact ⟨rfl, h8.2.2.trans (hb8.mono (by have := h8.2.2.size; omega))⟩
end Go.Proofs.YtknnbckmdfnmaaaDoor
