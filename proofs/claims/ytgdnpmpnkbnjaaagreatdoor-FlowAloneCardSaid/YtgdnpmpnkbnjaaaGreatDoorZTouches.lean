/- Contract of flow.Touches. Conditions: those of asked. -/
import Derived.Test.YtgdnpmpnkbnjaaaGreatDoorZTouch
namespace Go.Proofs.YtgdnpmpnkbnjaaaGreatDoor
open Go.RowKit

noncomputable def touchesL (p : Prg) (th : Int) (k : Nat) : List Nat := open Classical in if askedN p th = 0 ∧ p.startM.testBit th.toNat = true then touchL (p.codeAt th) k else []
theorem good_small {p : Prg} (h : p.check.e = 0) {t : Thr} (ht : t ∈ p.threads) : SmallN t.code := fun _ _ hx ho => (good_of h).small h ht hx ho
set_option maxRecDepth 100000 in
set_option maxHeartbeats 4000000 in
theorem touchesP_any (p : Prg) (th : Int) (w : World) (hE : Env p w) :
    Calls Tryz.prog 7 #[p.val, .int .i64 th] w fun e w' => ∃ A c, e = .returned (.tuple #[touchV A c (touchesL p th), .int .i64 (askedN p th)]) ∧ (TouchAt w' w'.heap.size A (touchesL p th) ∧ TouchNew w.heap.size A) ∧ Below w.heap.size w w' := by
  have HE := Lib.hid hE; clear hE
  have hle := HE.out.fits.threads
  have hpre : Hid (∀ W0 : World, W0 = (w.alloc (.cells p.cells 27)).alloc (.cells #[.slice none 0 0, .slice none 0 0, .slice none 0 0, .slice none 0 0, .slice none 0 0, .slice none 0 0, .slice none 0 0, .slice none 0 0, .slice none 0 0] 34) →
      Below w.heap.size w W0 ∧ W0.heap.size = w.heap.size + 2 ∧ Blk W0 w.heap.size 27 p.cells ∧ Blk W0 (w.heap.size + 1) 34 #[.slice none 0 0, .slice none 0 0, .slice none 0 0, .slice none 0 0, .slice none 0 0, .slice none 0 0, .slice none 0 0, .slice none 0 0, .slice none 0 0]) := Lib.hid (by
    rintro W0 rfl
    exact ⟨by go_grown, by simp, (Blk.new w _ _).alloc _, (Blk.new _ _ _).moved (by simp)⟩)
  rcases asked_cases p th with ha | ha | ha
  · obtain ⟨hck, k, rfl, hk⟩ := asked_ok ha
    have HG := Lib.hid (good_of hck)
    obtain ⟨t, ht⟩ := get_some hk
    have HT := Lib.hid ht
    have HSM := Lib.hid (good_small hck (get_mem ht))
    have hk20 : k < 1048576 := by have := HG.out.thr2; omega
    have HA := Lib.hid ha
    have hk2 : (k : Int) < (p.threads.length : Int) := by omega
    have hcd := codeAt_get ht
    have hrl : Hid (∀ j, touchesL p (k : Int) j = if p.startM.testBit k = true then touchL t.code j else []) := Lib.hid (by
      intro j
      unfold touchesL
      rw [hcd, Int.toNat_natCast]
      by_cases hb : p.startM.testBit k = true
      · rw [if_pos ⟨ha, hb⟩, if_pos hb]
      · rw [if_neg (fun h => hb h.2), if_neg hb])
    clear ha ht hck hcd
    unfold Prg.val
    go_enter Tryz.func7, Tryz.ntmps7
    go_wp2_with fail
    generalize hW : World.alloc _ _ = W0
    obtain ⟨h1, h2, h3, h4⟩ := hpre.out W0 hW.symm
    have HW1 := Lib.hid h1
    have HW2 := Lib.hid h2
    have HW3 := Lib.hid h3
    have HW4 := Lib.hid h4
    clear hW h1 h2 h3 h4
    refine (asked_any p k W0 (HE.out.keep HW1.out)).mono ?_
    rintro e w1 ⟨rfl, hb⟩
    have HBA := Lib.hid hb
    have HB := Lib.hid (HW1.out.trans (hb.mono HW1.out.size))
    have HBX := Lib.hid (HW3.out.below hb HW3.out.lt)
    have HTX := Lib.hid (HW4.out.below hb HW4.out.lt)
    clear hb
    rw [HA.out]
    have hlx := HBX.out.lt
    have hly := HTX.out.lt
    have d0 : w1.cell? ⟨w.heap.size, 0, none⟩ = some (.slice p.Av p.vars.length p.cv) := HBX.out.cell 0
    have d1 : w1.cell? ⟨w.heap.size, 1, none⟩ = some (.slice p.Ao p.vols.length p.co) := HBX.out.cell 1
    have d2 : w1.cell? ⟨w.heap.size, 2, none⟩ = some (.slice p.Al p.locks.length p.cl) := HBX.out.cell 2
    have d3 : w1.cell? ⟨w.heap.size, 3, none⟩ = some (.slice p.Ab p.bars.length p.cb) := HBX.out.cell 3
    have d4 : w1.cell? ⟨w.heap.size, 4, none⟩ = some (.slice p.At p.threads.length p.ct) := HBX.out.cell 4
    go_wp2_with fail
    refine (started_set p w1 (HE.out.keep HB.out).in_ HG.out (HE.out.keep HB.out).tab (HE.out.keep HB.out).pos).mono ?_
    rintro e w2 ⟨b2, A2, c2, ws2, rfl, hs2, hb2⟩
    have HS2 := Lib.hid hs2
    have HB2 := Lib.hid hb2
    have HBX2 := Lib.hid (HBX.out.below hb2 HBX.out.lt)
    have HTX2 := Lib.hid (HTX.out.below hb2 HTX.out.lt)
    have HE2 := Lib.hid ((HE.out.keep HB.out).keep hb2)
    have HBB := Lib.hid (HB.out.trans (hb2.mono HB.out.size))
    have HBC := Lib.hid (HBA.out.trans (hb2.mono HBA.out.size))
    clear hs2 hb2 d0 d1 d2 d3 d4 hlx hly
    have hlx := HBX2.out.lt
    have hly := HTX2.out.lt
    have d4 : w2.cell? ⟨w.heap.size, 4, none⟩ = some (.slice p.At p.threads.length p.ct) := HBX2.out.cell 4
    rcases hbit : p.startM.testBit k with _ | _
    · have HBIT := Lib.hid hbit
      clear hbit
      have hc0 : w2.cell? ⟨w.heap.size + 1, 0, none⟩ = some (.slice none 0 0) := HTX2.out.cell 0
      have hf0 := HTX2.out.frozen 0
      have hc1 : w2.cell? ⟨w.heap.size + 1, 1, none⟩ = some (.slice none 0 0) := HTX2.out.cell 1
      have hf1 := HTX2.out.frozen 1
      have hc2 : w2.cell? ⟨w.heap.size + 1, 2, none⟩ = some (.slice none 0 0) := HTX2.out.cell 2
      have hf2 := HTX2.out.frozen 2
      have hc3 : w2.cell? ⟨w.heap.size + 1, 3, none⟩ = some (.slice none 0 0) := HTX2.out.cell 3
      have hf3 := HTX2.out.frozen 3
      have hc4 : w2.cell? ⟨w.heap.size + 1, 4, none⟩ = some (.slice none 0 0) := HTX2.out.cell 4
      have hf4 := HTX2.out.frozen 4
      have hc5 : w2.cell? ⟨w.heap.size + 1, 5, none⟩ = some (.slice none 0 0) := HTX2.out.cell 5
      have hf5 := HTX2.out.frozen 5
      have hc6 : w2.cell? ⟨w.heap.size + 1, 6, none⟩ = some (.slice none 0 0) := HTX2.out.cell 6
      have hf6 := HTX2.out.frozen 6
      have hc7 : w2.cell? ⟨w.heap.size + 1, 7, none⟩ = some (.slice none 0 0) := HTX2.out.cell 7
      have hf7 := HTX2.out.frozen 7
      have hc8 : w2.cell? ⟨w.heap.size + 1, 8, none⟩ = some (.slice none 0 0) := HTX2.out.cell 8
      have hf8 := HTX2.out.frozen 8
      go_wp2_with (go_at_call 23; refine (has_set k w2 HS2.out hk20).mono ?_; rintro e w' ⟨rfl, rfl⟩; rw [HBIT.out])
      have hff := set9_foot w2 (w.heap.size + 1) (.slice none 0 0) (.slice none 0 0) (.slice none 0 0) (.slice none 0 0) (.slice none 0 0) (.slice none 0 0) (.slice none 0 0) (.slice none 0 0) (.slice none 0 0)
      refine bodyPost_ret (v := .tuple #[.agg #[.slice none 0 0, .slice none 0 0, .slice none 0 0, .slice none 0 0, .slice none 0 0, .slice none 0 0, .slice none 0 0, .slice none 0 0, .slice none 0 0], .int .i64 0]) ?_ rfl ?_
      · refine results_cell_tmp (t := 5) (p := 4) rfl _ _ (w.heap.size + 1) 34 _ (0, 0) _ (by rfl) (set9_blk HTX2.out rfl _ _ _ _ _ _ _ _ _) Tryz.underlying34 rfl size_touch
      rw [show touchesL p (k : Int) = fun _ => [] from funext fun j => by rw [hrl.out j, HBIT.out]; rfl, HA.out]
      exact ⟨fun _ => none, fun _ => 0, rfl, ⟨fun _ _ => RdL.nil_, fun _ _ g e => by cases e⟩, HBB.out.trans ((hff.mono (Q := fun i => w.heap.size ≤ i) (fun i _ e => by omega)).below HBB.out.size)⟩
    · have HBIT := Lib.hid hbit
      clear hbit
      obtain ⟨g, off, hAg, hgl, _, t1, _⟩ := (HE2.out.in_.threads).thr HT.out
      have HAG := Lib.hid hAg
      rw [hAg] at d4
      clear hAg
      go_wp2_with (go_at_call 23; refine (has_set k w2 HS2.out hk20).mono ?_; rintro e w' ⟨rfl, rfl⟩; rw [HBIT.out])
      refine (touches_any w2 ((HE2.out.in_.thr t (get_mem HT.out)).code) (Nat.le_refl _) (HG.out.code t (get_mem HT.out)) HSM.out HE2.out.tab HE2.out.pos).mono ?_
      rintro e w3 ⟨A3, c3, rfl, ⟨ht3, hn3⟩, hb3⟩
      have HN3 := Lib.hid hn3
      have HT3 := Lib.hid ht3
      have HB3 := Lib.hid hb3
      have HTX3 := Lib.hid (HTX2.out.below hb3 HTX2.out.lt)
      unfold touchV
      clear ht3 hn3 hb3 hly hlx d4 t1
      have hly := HTX3.out.lt
      have hc0 : w3.cell? ⟨w.heap.size + 1, 0, none⟩ = some (.slice none 0 0) := HTX3.out.cell 0
      have hf0 := HTX3.out.frozen 0
      have hc1 : w3.cell? ⟨w.heap.size + 1, 1, none⟩ = some (.slice none 0 0) := HTX3.out.cell 1
      have hf1 := HTX3.out.frozen 1
      have hc2 : w3.cell? ⟨w.heap.size + 1, 2, none⟩ = some (.slice none 0 0) := HTX3.out.cell 2
      have hf2 := HTX3.out.frozen 2
      have hc3 : w3.cell? ⟨w.heap.size + 1, 3, none⟩ = some (.slice none 0 0) := HTX3.out.cell 3
      have hf3 := HTX3.out.frozen 3
      have hc4 : w3.cell? ⟨w.heap.size + 1, 4, none⟩ = some (.slice none 0 0) := HTX3.out.cell 4
      have hf4 := HTX3.out.frozen 4
      have hc5 : w3.cell? ⟨w.heap.size + 1, 5, none⟩ = some (.slice none 0 0) := HTX3.out.cell 5
      have hf5 := HTX3.out.frozen 5
      have hc6 : w3.cell? ⟨w.heap.size + 1, 6, none⟩ = some (.slice none 0 0) := HTX3.out.cell 6
      have hf6 := HTX3.out.frozen 6
      have hc7 : w3.cell? ⟨w.heap.size + 1, 7, none⟩ = some (.slice none 0 0) := HTX3.out.cell 7
      have hf7 := HTX3.out.frozen 7
      have hc8 : w3.cell? ⟨w.heap.size + 1, 8, none⟩ = some (.slice none 0 0) := HTX3.out.cell 8
      have hf8 := HTX3.out.frozen 8
      go_wp2_with fail
      have hff := set9_foot w3 (w.heap.size + 1) (.slice (A3 0) (touchL t.code 0).length (c3 0)) (.slice (A3 1) (touchL t.code 1).length (c3 1)) (.slice (A3 2) (touchL t.code 2).length (c3 2)) (.slice (A3 3) (touchL t.code 3).length (c3 3)) (.slice (A3 4) (touchL t.code 4).length (c3 4)) (.slice (A3 5) (touchL t.code 5).length (c3 5)) (.slice (A3 6) (touchL t.code 6).length (c3 6)) (.slice (A3 7) (touchL t.code 7).length (c3 7)) (.slice (A3 8) (touchL t.code 8).length (c3 8))
      refine bodyPost_ret (v := .tuple #[.agg #[.slice (A3 0) (touchL t.code 0).length (c3 0), .slice (A3 1) (touchL t.code 1).length (c3 1), .slice (A3 2) (touchL t.code 2).length (c3 2), .slice (A3 3) (touchL t.code 3).length (c3 3), .slice (A3 4) (touchL t.code 4).length (c3 4), .slice (A3 5) (touchL t.code 5).length (c3 5), .slice (A3 6) (touchL t.code 6).length (c3 6), .slice (A3 7) (touchL t.code 7).length (c3 7), .slice (A3 8) (touchL t.code 8).length (c3 8)], .int .i64 0]) ?_ rfl ?_
      · refine results_cell_tmp (t := 5) (p := 4) rfl _ _ (w.heap.size + 1) 34 _ (0, 0) _ (by rfl) (set9_blk HTX3.out rfl _ _ _ _ _ _ _ _ _) Tryz.underlying34 rfl size_touch
      rw [show touchesL p (k : Int) = touchL t.code from funext fun j => by rw [hrl.out j, if_pos HBIT.out], HA.out]
      refine ⟨A3, c3, rfl, ⟨fun j hj => (HT3.out j hj).side hff (fun g hg e => by have h1 := HN3.out j hj g hg; have h2 := HTX2.out.lt; omega) (Nat.le_refl _), fun j hj g hg => Nat.le_trans HBB.out.size (HN3.out j hj g hg)⟩, (HBB.out.trans (HB3.out.mono HBB.out.size)).trans ((hff.mono (Q := fun i => w.heap.size ≤ i) (fun i _ e => by omega)).below (Nat.le_trans HBB.out.size HB3.out.size))⟩
  · have hrl : Hid (touchesL p th = fun _ => []) := Lib.hid (funext fun j => by unfold touchesL; rw [if_neg (by rw [ha]; intro h; cases h.1)])
    have HA := Lib.hid ha
    clear ha
    unfold Prg.val
    go_enter Tryz.func7, Tryz.ntmps7
    go_wp2_with fail
    generalize hW : World.alloc _ _ = W0
    obtain ⟨h1, h2, h3, h4⟩ := hpre.out W0 hW.symm
    have HW1 := Lib.hid h1
    have HW2 := Lib.hid h2
    have HW3 := Lib.hid h3
    have HW4 := Lib.hid h4
    clear hW h1 h2 h3 h4
    refine (asked_any p th W0 (HE.out.keep HW1.out)).mono ?_
    rintro e w1 ⟨rfl, hb⟩
    have HBA := Lib.hid hb
    have HB := Lib.hid (HW1.out.trans (hb.mono HW1.out.size))
    have HBX := Lib.hid (HW3.out.below hb HW3.out.lt)
    have HTX := Lib.hid (HW4.out.below hb HW4.out.lt)
    clear hb
    rw [HA.out]
    have hlx := HBX.out.lt
    have hly := HTX.out.lt
    have hc0 : w1.cell? ⟨w.heap.size + 1, 0, none⟩ = some (.slice none 0 0) := HTX.out.cell 0
    have hf0 := HTX.out.frozen 0
    have hc1 : w1.cell? ⟨w.heap.size + 1, 1, none⟩ = some (.slice none 0 0) := HTX.out.cell 1
    have hf1 := HTX.out.frozen 1
    have hc2 : w1.cell? ⟨w.heap.size + 1, 2, none⟩ = some (.slice none 0 0) := HTX.out.cell 2
    have hf2 := HTX.out.frozen 2
    have hc3 : w1.cell? ⟨w.heap.size + 1, 3, none⟩ = some (.slice none 0 0) := HTX.out.cell 3
    have hf3 := HTX.out.frozen 3
    have hc4 : w1.cell? ⟨w.heap.size + 1, 4, none⟩ = some (.slice none 0 0) := HTX.out.cell 4
    have hf4 := HTX.out.frozen 4
    have hc5 : w1.cell? ⟨w.heap.size + 1, 5, none⟩ = some (.slice none 0 0) := HTX.out.cell 5
    have hf5 := HTX.out.frozen 5
    have hc6 : w1.cell? ⟨w.heap.size + 1, 6, none⟩ = some (.slice none 0 0) := HTX.out.cell 6
    have hf6 := HTX.out.frozen 6
    have hc7 : w1.cell? ⟨w.heap.size + 1, 7, none⟩ = some (.slice none 0 0) := HTX.out.cell 7
    have hf7 := HTX.out.frozen 7
    have hc8 : w1.cell? ⟨w.heap.size + 1, 8, none⟩ = some (.slice none 0 0) := HTX.out.cell 8
    have hf8 := HTX.out.frozen 8
    go_wp2_with fail
    have hff := set9_foot w1 (w.heap.size + 1) (.slice none 0 0) (.slice none 0 0) (.slice none 0 0) (.slice none 0 0) (.slice none 0 0) (.slice none 0 0) (.slice none 0 0) (.slice none 0 0) (.slice none 0 0)
    rw [hrl.out, HA.out]
    refine bodyPost_ret (v := .tuple #[.agg #[.slice none 0 0, .slice none 0 0, .slice none 0 0, .slice none 0 0, .slice none 0 0, .slice none 0 0, .slice none 0 0, .slice none 0 0, .slice none 0 0], .int .i64 2]) ?_ rfl ?_
    · refine results_cell_tmp (t := 5) (p := 4) rfl _ _ (w.heap.size + 1) 34 _ (0, 0) _ (by rfl) (set9_blk HTX.out rfl _ _ _ _ _ _ _ _ _) Tryz.underlying34 rfl size_touch
    exact ⟨fun _ => none, fun _ => 0, rfl, ⟨fun _ _ => RdL.nil_, fun _ _ g e => by cases e⟩, HB.out.trans ((hff.mono (Q := fun i => w.heap.size ≤ i) (fun i _ e => by omega)).below HB.out.size)⟩
  · have hrl : Hid (touchesL p th = fun _ => []) := Lib.hid (funext fun j => by unfold touchesL; rw [if_neg (by rw [ha]; intro h; cases h.1)])
    have HA := Lib.hid ha
    clear ha
    unfold Prg.val
    go_enter Tryz.func7, Tryz.ntmps7
    go_wp2_with fail
    generalize hW : World.alloc _ _ = W0
    obtain ⟨h1, h2, h3, h4⟩ := hpre.out W0 hW.symm
    have HW1 := Lib.hid h1
    have HW2 := Lib.hid h2
    have HW3 := Lib.hid h3
    have HW4 := Lib.hid h4
    clear hW h1 h2 h3 h4
    refine (asked_any p th W0 (HE.out.keep HW1.out)).mono ?_
    rintro e w1 ⟨rfl, hb⟩
    have HBA := Lib.hid hb
    have HB := Lib.hid (HW1.out.trans (hb.mono HW1.out.size))
    have HBX := Lib.hid (HW3.out.below hb HW3.out.lt)
    have HTX := Lib.hid (HW4.out.below hb HW4.out.lt)
    clear hb
    rw [HA.out]
    have hlx := HBX.out.lt
    have hly := HTX.out.lt
    have hc0 : w1.cell? ⟨w.heap.size + 1, 0, none⟩ = some (.slice none 0 0) := HTX.out.cell 0
    have hf0 := HTX.out.frozen 0
    have hc1 : w1.cell? ⟨w.heap.size + 1, 1, none⟩ = some (.slice none 0 0) := HTX.out.cell 1
    have hf1 := HTX.out.frozen 1
    have hc2 : w1.cell? ⟨w.heap.size + 1, 2, none⟩ = some (.slice none 0 0) := HTX.out.cell 2
    have hf2 := HTX.out.frozen 2
    have hc3 : w1.cell? ⟨w.heap.size + 1, 3, none⟩ = some (.slice none 0 0) := HTX.out.cell 3
    have hf3 := HTX.out.frozen 3
    have hc4 : w1.cell? ⟨w.heap.size + 1, 4, none⟩ = some (.slice none 0 0) := HTX.out.cell 4
    have hf4 := HTX.out.frozen 4
    have hc5 : w1.cell? ⟨w.heap.size + 1, 5, none⟩ = some (.slice none 0 0) := HTX.out.cell 5
    have hf5 := HTX.out.frozen 5
    have hc6 : w1.cell? ⟨w.heap.size + 1, 6, none⟩ = some (.slice none 0 0) := HTX.out.cell 6
    have hf6 := HTX.out.frozen 6
    have hc7 : w1.cell? ⟨w.heap.size + 1, 7, none⟩ = some (.slice none 0 0) := HTX.out.cell 7
    have hf7 := HTX.out.frozen 7
    have hc8 : w1.cell? ⟨w.heap.size + 1, 8, none⟩ = some (.slice none 0 0) := HTX.out.cell 8
    have hf8 := HTX.out.frozen 8
    go_wp2_with fail
    have hff := set9_foot w1 (w.heap.size + 1) (.slice none 0 0) (.slice none 0 0) (.slice none 0 0) (.slice none 0 0) (.slice none 0 0) (.slice none 0 0) (.slice none 0 0) (.slice none 0 0) (.slice none 0 0)
    rw [hrl.out, HA.out]
    refine bodyPost_ret (v := .tuple #[.agg #[.slice none 0 0, .slice none 0 0, .slice none 0 0, .slice none 0 0, .slice none 0 0, .slice none 0 0, .slice none 0 0, .slice none 0 0, .slice none 0 0], .int .i64 4]) ?_ rfl ?_
    · refine results_cell_tmp (t := 5) (p := 4) rfl _ _ (w.heap.size + 1) 34 _ (0, 0) _ (by rfl) (set9_blk HTX.out rfl _ _ _ _ _ _ _ _ _) Tryz.underlying34 rfl size_touch
    exact ⟨fun _ => none, fun _ => 0, rfl, ⟨fun _ _ => RdL.nil_, fun _ _ g e => by cases e⟩, HB.out.trans ((hff.mono (Q := fun i => w.heap.size ≤ i) (fun i _ e => by omega)).below HB.out.size)⟩
end Go.Proofs.YtgdnpmpnkbnjaaaGreatDoor
