/- Contract of check.parts: the five lists' names, in new memory. Conditions: the sizes of Prg.Fits. (The five like parts of the walk were printed by a small program.) -/
import Derived.Test.YtknnbckmdfnmaaaDoorData
namespace Go.Proofs.YtknnbckmdfnmaaaDoor
open Go.RowKit

theorem info_str : (Tryd.prog.info? 9).map (fun i => (i.zero, i.size, i.bytes)) = some (some (.string ByteArray.empty), 1, 16) := by kernel_rfl
theorem size_six : (Tryd.prog.info? 69).map (·.size) = some 6 := by kernel_rfl
abbrev ns : Value := .slice none 0 0
theorem flatS (l : List ByteArray) : l.flatMap encS = l.map Value.string := by
  induction l with
  | nil => rfl
  | cons a r ih => simp only [List.flatMap_cons, List.map_cons, ih]; rfl
theorem oneS {l : List ByteArray} : ∀ u ∈ l.flatMap encS, u.oneCell' = true := by
  intro u hu
  rw [flatS] at hu
  obtain ⟨x, _, rfl⟩ := List.mem_map.1 hu
  rfl
theorem take_map_succ {α : Type} (f : α → ByteArray) {l : List α} {k : Nat} {x : α} (h : l[k]? = some x) : (l.take (k + 1)).map (fun y => Value.string (f y)) = (l.take k).map (fun y => Value.string (f y)) ++ [Value.string (f x)] := by
  rw [List.take_add_one, h]; simp
theorem take_all_map {α : Type} (f : α → ByteArray) (l : List α) : (l.take l.length).map (fun y => Value.string (f y)) = (l.map f).flatMap encS := by
  rw [flatS, List.take_of_length_le (Nat.le_refl _), List.map_map]; rfl

set_option maxHeartbeats 4000000 in
set_option maxRecDepth 100000 in
theorem parts_any (p : Prg) (w : World) (hf : p.Fits) (hin : p.In w w.heap.size) :
    Calls Tryd.prog 23 #[p.val] w fun e w' => ∃ v1 v2 v3 v4 v5, e = .returned (.agg #[ns, v1, v2, v3, v4, v5]) ∧ Below w.heap.size w w' ∧
      w'.ownsRow w.heap.size 9 1 v1 p.vars.length ((p.names 1).flatMap encS) ∧ w'.ownsRow w.heap.size 9 1 v2 p.vols.length ((p.names 2).flatMap encS) ∧ w'.ownsRow w.heap.size 9 1 v3 p.locks.length ((p.names 3).flatMap encS) ∧
      w'.ownsRow w.heap.size 9 1 v4 p.bars.length ((p.names 4).flatMap encS) ∧ w'.ownsRow w.heap.size 9 1 v5 p.threads.length ((p.names 5).flatMap encS) := by
  obtain ⟨i0, hi0, hz0, hz1, hz2⟩ := info_parts info_str
  have HF := Lib.hid hf; clear hf
  have HI := Lib.hid hin; clear hin
  unfold Prg.val
  go_enter Tryd.func23, Tryd.ntmps23
  go_wp2_with fail
  generalize hW : World.alloc _ _ = W0
  have HBEL0 : Below w.heap.size w W0 := by subst hW; go_grown
  have hs0 : w.heap.size + 1 + 1 + 1 ≤ W0.heap.size := by subst hW; simp
  have HBLK0 : Hid (Blk W0 (w.heap.size + 1 + 1) 69 #[ns, ns, ns, ns, ns, ns]) := by
    subst hW
    have := Blk.new ((w.alloc (.cells #[.slice p.Av p.vars.length p.cv, .slice p.Ao p.vols.length p.co, .slice p.Al p.locks.length p.cl, .slice p.Ab p.bars.length p.cb, .slice p.At p.threads.length p.ct] 27)).alloc (.cells #[ns, ns, ns, ns, ns, ns] 69)) 69 #[ns, ns, ns, ns, ns, ns]
    exact this.moved (by simp)
  have HRES0 : Hid (Blk W0 (w.heap.size + 1) 69 #[ns, ns, ns, ns, ns, ns]) := by
    subst hW
    have := (Blk.new (w.alloc (.cells #[.slice p.Av p.vars.length p.cv, .slice p.Ao p.vols.length p.co, .slice p.Al p.locks.length p.cl, .slice p.Ab p.bars.length p.cb, .slice p.At p.threads.length p.ct] 27)) 69 #[ns, ns, ns, ns, ns, ns]).alloc (.cells #[ns, ns, ns, ns, ns, ns] 69)
    exact this.moved (by simp)
  have HBOX0 : Hid (Blk W0 w.heap.size 27 #[.slice p.Av p.vars.length p.cv, .slice p.Ao p.vols.length p.co, .slice p.Al p.locks.length p.cl, .slice p.Ab p.bars.length p.cb, .slice p.At p.threads.length p.ct]) := by
    subst hW
    exact ((Blk.new w _ _).alloc _).alloc _
  clear hW
  go_loopw [15] (fun i wr => ∃ (k : Nat) (A : Option Addr) (c : Nat), k ≤ p.vars.length ∧ i = .int .i64 k ∧ Blk wr (w.heap.size + 1 + 1) 69 #[ns, .slice A k c, ns, ns, ns, ns] ∧ wr.ownsRow W0.heap.size 9 1 (.slice A k c) k ((p.vars.take k).map fun x => Value.string x.name) ∧ W0.grownBy wr (some (w.heap.size + 1 + 1))) (fun i _ => p.vars.length - (intOf i).toNat)
  case atStart => exact ⟨0, none, 0, by omega, rfl, HBLK0.out, ⟨rfl, .inl ⟨rfl, rfl⟩⟩, World.grownBy.refl _ _⟩
  case round =>
    obtain ⟨k, A1, c1, hk, rfl, hblk, hown, hg⟩ := hrel
    have HB := Lib.hid hblk; clear hblk
    by_cases hlt : k < p.vars.length
    · obtain ⟨x, hx⟩ := get_some hlt
      obtain ⟨g, off, hA, hgB, q0, q1⟩ := (((HI.out.vars).below HBEL0).only hg (by omega) (by omega)).nam hx
      have e1 : wr.cell? ⟨w.heap.size + 1 + 1, 1, none⟩ = some (.slice A1 k c1) := HB.out.cell 1
      have hs : w.heap.size + 1 + 1 < wr.heap.size := HB.out.lt
      have hWr : W0.heap.size ≤ wr.heap.size := hg.size
      have hvl : p.vars.length * 24 ≤ 140737488351232 := HF.out.vars
      have HX := Lib.hid hx
      rw [hA]
      clear hA hx
      go_wp2_with (at_builtin; go_must (refine wpList_append_one rfl (.tmp 20) (.tmp 23) _ rfl _ _ W0.heap.size 9 i0 _ 1 16 Tryd.underlying23 hi0 hz0 hz1 hz2 rfl (by omega) (.slice A1 k c1) k _ (by rfl) _ (by rfl) (by simp) (by rfl) (by simp [Value.oneCell']) (by exact hown.alloc _) (by simp only [maxLen]; omega) (by omega) (by simp; omega) ?_); intro g1 k1 w1 hown1 hg1 hat1 hbg1 hgl1; have hb1 := (HB.out.alloc _).grown hg1 (own_blk_lt hown (by omega)); have e2 := hb1.cell 1; have f2 := hb1.frozen 1; have HB1 := Lib.hid hb1; clear hb1)
      go_roundw
      case rel =>
        refine ⟨k + 1, _, _, by omega, by go_num, HB1.out.set_ 1 _, ?_, only_setCell (only_grown (only_alloc hg _) hg1 ?_) (.inl rfl) _⟩
        · rw [take_map_succ _ HX.out]
          exact ownsRow_setCell_other hown1 (by simp [Value.ownBlock]; omega) _
        · intro j hj
          exact .inr (hown.lt j hj).1
      case measure => simp [intOf]; omega
    · obtain rfl : k = p.vars.length := by omega
      clear hk hlt
      obtain ⟨W1, rfl⟩ : ∃ x : World, x = wr := ⟨_, rfl⟩
      obtain ⟨v1, hv1⟩ : ∃ v : Value, v = .slice A1 p.vars.length c1 := ⟨_, rfl⟩
      rw [← hv1] at hown HB
      have HOWN1_1 : Hid (W1.ownsRow (w.heap.size + 1 + 1 + 1) 9 1 v1 p.vars.length _) := own_base hown hs0
      have HV1 := Lib.hid hv1; clear hown hv1
      have HBLK1 := HB; clear HB
      have HBOX1 := Lib.hid (HBOX0.out.only hg (by omega)); clear HBOX0
      have HRES1 := Lib.hid (HRES0.out.only hg (by omega)); clear HRES0
      have HBEL1 : Below w.heap.size w W1 := HBEL0.grown hg (by omega) (by intro k hk; injection hk; omega)
      have hs1 : w.heap.size + 1 + 1 + 1 ≤ W1.heap.size := Nat.le_trans hs0 hg.size
      clear hg HBLK0 HBEL0
      have hb2 : W1.cell? ⟨w.heap.size, 1, none⟩ = some (.slice p.Ao p.vols.length p.co) := HBOX1.out.cell 1
      go_wp2_with fail
      clear hb2
      go_loopw [30] (fun i wr => ∃ (k : Nat) (A : Option Addr) (c : Nat), k ≤ p.vols.length ∧ i = .int .i64 k ∧ Blk wr (w.heap.size + 1 + 1) 69 #[ns, v1, .slice A k c, ns, ns, ns] ∧ wr.ownsRow W1.heap.size 9 1 (.slice A k c) k ((p.vols.take k).map fun x => Value.string x.name) ∧ W1.grownBy wr (some (w.heap.size + 1 + 1))) (fun i _ => p.vols.length - (intOf i).toNat)
      case atStart => exact ⟨0, none, 0, by omega, rfl, HBLK1.out, ⟨rfl, .inl ⟨rfl, rfl⟩⟩, World.grownBy.refl _ _⟩
      case round =>
        obtain ⟨k, A2, c2, hk, rfl, hblk, hown, hg⟩ := hrel
        have HB := Lib.hid hblk; clear hblk
        by_cases hlt : k < p.vols.length
        · obtain ⟨x, hx⟩ := get_some hlt
          obtain ⟨g, off, hA, hgB, q0, q1⟩ := (((HI.out.vols).below HBEL1).only hg (by omega) (by omega)).nam hx
          have e1 : wr.cell? ⟨w.heap.size + 1 + 1, 2, none⟩ = some (.slice A2 k c2) := HB.out.cell 2
          have hs : w.heap.size + 1 + 1 < wr.heap.size := HB.out.lt
          have hWr : W1.heap.size ≤ wr.heap.size := hg.size
          have hvl : p.vols.length * 24 ≤ 140737488351232 := HF.out.vols
          have HX := Lib.hid hx
          rw [hA]
          clear hA hx
          go_wp2_with (at_builtin; go_must (refine wpList_append_one rfl (.tmp 35) (.tmp 38) _ rfl _ _ W1.heap.size 9 i0 _ 1 16 Tryd.underlying23 hi0 hz0 hz1 hz2 rfl (by omega) (.slice A2 k c2) k _ (by rfl) _ (by rfl) (by simp) (by rfl) (by simp [Value.oneCell']) (by exact hown.alloc _) (by simp only [maxLen]; omega) (by omega) (by simp; omega) ?_); intro g1 k1 w1 hown1 hg1 hat1 hbg1 hgl1; have hb1 := (HB.out.alloc _).grown hg1 (own_blk_lt hown (by omega)); have e2 := hb1.cell 2; have f2 := hb1.frozen 2; have HB1 := Lib.hid hb1; clear hb1)
          go_roundw
          case rel =>
            refine ⟨k + 1, _, _, by omega, by go_num, HB1.out.set_ 2 _, ?_, only_setCell (only_grown (only_alloc hg _) hg1 ?_) (.inl rfl) _⟩
            · rw [take_map_succ _ HX.out]
              exact ownsRow_setCell_other hown1 (by simp [Value.ownBlock]; omega) _
            · intro j hj
              exact .inr (hown.lt j hj).1
          case measure => simp [intOf]; omega
        · obtain rfl : k = p.vols.length := by omega
          clear hk hlt
          obtain ⟨W2, rfl⟩ : ∃ x : World, x = wr := ⟨_, rfl⟩
          obtain ⟨v2, hv2⟩ : ∃ v : Value, v = .slice A2 p.vols.length c2 := ⟨_, rfl⟩
          rw [← hv2] at hown HB
          have HOWN2_2 : Hid (W2.ownsRow (w.heap.size + 1 + 1 + 1) 9 1 v2 p.vols.length _) := own_base hown hs1
          have HV2 := Lib.hid hv2; clear hown hv2
          have HBLK2 := HB; clear HB
          have HBOX2 := Lib.hid (HBOX1.out.only hg (by omega)); clear HBOX1
          have HRES2 := Lib.hid (HRES1.out.only hg (by omega)); clear HRES1
          have HBEL2 : Below w.heap.size w W2 := HBEL1.grown hg (by omega) (by intro k hk; injection hk; omega)
          have hs2 : w.heap.size + 1 + 1 + 1 ≤ W2.heap.size := Nat.le_trans hs1 hg.size
          have HOWN1_2 := Lib.hid (own_keep HOWN1_1.out hg (by omega)); clear HOWN1_1
          clear hg HBLK1 HBEL1
          have hb3 : W2.cell? ⟨w.heap.size, 2, none⟩ = some (.slice p.Al p.locks.length p.cl) := HBOX2.out.cell 2
          have hb3x : W2.cell? ⟨w.heap.size + 1 + 1, 3, none⟩ = some ns := HBLK2.out.cell 3
          have hlk : p.locks.length * 16 ≤ 140737488351232 := HF.out.locks
          have HLR := Lib.hid (RdL.reads (enc := encS) (size := 1) (fun _ => rfl) (HI.out.locks.below HBEL2))
          go_wp2_with (at_builtin; go_must (refine wpList_append_any _ rfl (.tmp 43) (.tmp 45) _ rfl W2.heap.size 9 i0 _ 1 16 Tryd.underlying23 hi0 hz0 hz1 hz2 rfl (by omega) ns 0 [] (by rfl) (World.ownsRow_nil _ _ _ _) w.heap.size p.Al p.locks.length p.cl _ (by rfl) HLR.out oneS (by simp only [maxLen]; omega) (by omega) (Nat.le_refl _) ?_); intro v3 w1 hown hg1 hat1; obtain ⟨A3, c3, rfl⟩ := own_form hown; have hb1 := HBLK2.out.grown hg1 (by simp [Value.ownBlock]); have e2 := hb1.cell 3; have f2 := hb1.frozen 3; have HB1 := Lib.hid hb1; have hbx := HBOX2.out.grown hg1 (by simp [Value.ownBlock]); have e3 := hbx.cell 3; have HBX := Lib.hid hbx; clear hb1 hat1 hbx; rw [Nat.zero_add] at hown)
          clear hb3 hb3x e2 f2 e3 hlk HLR
          obtain ⟨v3, hv3⟩ : ∃ v : Value, v = .slice A3 p.locks.length c3 := ⟨_, rfl⟩
          generalize hW : World.setCell _ _ _ = W3
          have hgw : w1.heap.size = W3.heap.size := by rw [← hW]; simp
          have HBLK3 : Hid (Blk W3 (w.heap.size + 1 + 1) 69 #[ns, v1, v2, v3, ns, ns]) := by
            rw [← hW, hv3]
            exact HB1.out.set_ 3 _
          have HBOX3 : Hid (Blk W3 w.heap.size 27 #[.slice p.Av p.vars.length p.cv, .slice p.Ao p.vols.length p.co, .slice p.Al p.locks.length p.cl, .slice p.Ab p.bars.length p.cb, .slice p.At p.threads.length p.ct]) := by
            rw [← hW]
            exact HBX.out.far (by dsimp only; omega) _
          have HRES3 : Hid (Blk W3 (w.heap.size + 1) 69 #[ns, ns, ns, ns, ns, ns]) := by
            rw [← hW]
            exact (HRES2.out.grown hg1 (by simp [Value.ownBlock])).far (by dsimp only; omega) _
          have HBEL3 : Below w.heap.size w W3 := by
            rw [← hW]
            exact (HBEL2.grown hg1 (by omega) (by simp [Value.ownBlock])).setCell (by dsimp only; omega) _
          have hs3 : w.heap.size + 1 + 1 + 1 ≤ W3.heap.size := by have := hg1.size; omega
          have HOWN3_3 : Hid (W3.ownsRow (w.heap.size + 1 + 1 + 1) 9 1 v3 p.locks.length (p.locks.flatMap encS)) := by
            rw [← hW, hv3]
            exact own_base (base := W2.heap.size) (ownsRow_setCell_below hown (by dsimp only; omega) _) (by omega)
          have HOWN1_3 : Hid (W3.ownsRow (w.heap.size + 1 + 1 + 1) 9 1 v1 p.vars.length ((p.vars.take p.vars.length).map fun x => Value.string x.name)) := by
            rw [← hW]
            exact ownsRow_setCell_below (HOWN1_2.out.kept hg1 (none_row _)) (by dsimp only; omega) _
          clear HOWN1_2
          have HOWN2_3 : Hid (W3.ownsRow (w.heap.size + 1 + 1 + 1) 9 1 v2 p.vols.length ((p.vols.take p.vols.length).map fun x => Value.string x.name)) := by
            rw [← hW]
            exact ownsRow_setCell_below (HOWN2_2.out.kept hg1 (none_row _)) (by dsimp only; omega) _
          clear HOWN2_2
          have HV3 := Lib.hid hv3
          clear hW hgw hv3 hown hg1 HB1 HBX HBLK2 HBOX2 HRES2 HBEL2
          rw [← HV3.out]
          go_loopw [51] (fun i wr => ∃ (k : Nat) (A : Option Addr) (c : Nat), k ≤ p.bars.length ∧ i = .int .i64 k ∧ Blk wr (w.heap.size + 1 + 1) 69 #[ns, v1, v2, v3, .slice A k c, ns] ∧ wr.ownsRow W3.heap.size 9 1 (.slice A k c) k ((p.bars.take k).map fun x => Value.string x.name) ∧ W3.grownBy wr (some (w.heap.size + 1 + 1))) (fun i _ => p.bars.length - (intOf i).toNat)
          case atStart => exact ⟨0, none, 0, by omega, rfl, HBLK3.out, ⟨rfl, .inl ⟨rfl, rfl⟩⟩, World.grownBy.refl _ _⟩
          case round =>
            obtain ⟨k, A4, c4, hk, rfl, hblk, hown, hg⟩ := hrel
            have HB := Lib.hid hblk; clear hblk
            by_cases hlt : k < p.bars.length
            · obtain ⟨x, hx⟩ := get_some hlt
              obtain ⟨g, off, hA, hgB, q0, q1⟩ := (((HI.out.bars).below HBEL3).only hg (by omega) (by omega)).nam hx
              have e1 : wr.cell? ⟨w.heap.size + 1 + 1, 4, none⟩ = some (.slice A4 k c4) := HB.out.cell 4
              have hs : w.heap.size + 1 + 1 < wr.heap.size := HB.out.lt
              have hWr : W3.heap.size ≤ wr.heap.size := hg.size
              have hvl : p.bars.length * 24 ≤ 140737488351232 := HF.out.bars
              have HX := Lib.hid hx
              rw [hA]
              clear hA hx
              go_wp2_with (at_builtin; go_must (refine wpList_append_one rfl (.tmp 56) (.tmp 59) _ rfl _ _ W3.heap.size 9 i0 _ 1 16 Tryd.underlying23 hi0 hz0 hz1 hz2 rfl (by omega) (.slice A4 k c4) k _ (by rfl) _ (by rfl) (by simp) (by rfl) (by simp [Value.oneCell']) (by exact hown.alloc _) (by simp only [maxLen]; omega) (by omega) (by simp; omega) ?_); intro g1 k1 w1 hown1 hg1 hat1 hbg1 hgl1; have hb1 := (HB.out.alloc _).grown hg1 (own_blk_lt hown (by omega)); have e2 := hb1.cell 4; have f2 := hb1.frozen 4; have HB1 := Lib.hid hb1; clear hb1)
              go_roundw
              case rel =>
                refine ⟨k + 1, _, _, by omega, by go_num, HB1.out.set_ 4 _, ?_, only_setCell (only_grown (only_alloc hg _) hg1 ?_) (.inl rfl) _⟩
                · rw [take_map_succ _ HX.out]
                  exact ownsRow_setCell_other hown1 (by simp [Value.ownBlock]; omega) _
                · intro j hj
                  exact .inr (hown.lt j hj).1
              case measure => simp [intOf]; omega
            · obtain rfl : k = p.bars.length := by omega
              clear hk hlt
              obtain ⟨W4, rfl⟩ : ∃ x : World, x = wr := ⟨_, rfl⟩
              obtain ⟨v4, hv4⟩ : ∃ v : Value, v = .slice A4 p.bars.length c4 := ⟨_, rfl⟩
              rw [← hv4] at hown HB
              have HOWN4_4 : Hid (W4.ownsRow (w.heap.size + 1 + 1 + 1) 9 1 v4 p.bars.length _) := own_base hown hs3
              have HV4 := Lib.hid hv4; clear hown hv4
              have HBLK4 := HB; clear HB
              have HBOX4 := Lib.hid (HBOX3.out.only hg (by omega)); clear HBOX3
              have HRES4 := Lib.hid (HRES3.out.only hg (by omega)); clear HRES3
              have HBEL4 : Below w.heap.size w W4 := HBEL3.grown hg (by omega) (by intro k hk; injection hk; omega)
              have hs4 : w.heap.size + 1 + 1 + 1 ≤ W4.heap.size := Nat.le_trans hs3 hg.size
              have HOWN1_4 := Lib.hid (own_keep HOWN1_3.out hg (by omega)); clear HOWN1_3
              have HOWN2_4 := Lib.hid (own_keep HOWN2_3.out hg (by omega)); clear HOWN2_3
              have HOWN3_4 := Lib.hid (own_keep HOWN3_3.out hg (by omega)); clear HOWN3_3
              clear hg HBLK3 HBEL3
              have hb5 : W4.cell? ⟨w.heap.size, 4, none⟩ = some (.slice p.At p.threads.length p.ct) := HBOX4.out.cell 4
              go_wp2_with fail
              clear hb5
              go_loopw [66] (fun i wr => ∃ (k : Nat) (A : Option Addr) (c : Nat), k ≤ p.threads.length ∧ i = .int .i64 k ∧ Blk wr (w.heap.size + 1 + 1) 69 #[ns, v1, v2, v3, v4, .slice A k c] ∧ wr.ownsRow W4.heap.size 9 1 (.slice A k c) k ((p.threads.take k).map fun x => Value.string x.name) ∧ W4.grownBy wr (some (w.heap.size + 1 + 1))) (fun i _ => p.threads.length - (intOf i).toNat)
              case atStart => exact ⟨0, none, 0, by omega, rfl, HBLK4.out, ⟨rfl, .inl ⟨rfl, rfl⟩⟩, World.grownBy.refl _ _⟩
              case round =>
                obtain ⟨k, A5, c5, hk, rfl, hblk, hown, hg⟩ := hrel
                have HB := Lib.hid hblk; clear hblk
                by_cases hlt : k < p.threads.length
                · obtain ⟨x, hx⟩ := get_some hlt
                  obtain ⟨g, off, hA, hgB, q0, q1, q2⟩ := (((HI.out.threads).below HBEL4).only hg (by omega) (by omega)).thr hx
                  have e1 : wr.cell? ⟨w.heap.size + 1 + 1, 5, none⟩ = some (.slice A5 k c5) := HB.out.cell 5
                  have hs : w.heap.size + 1 + 1 < wr.heap.size := HB.out.lt
                  have hWr : W4.heap.size ≤ wr.heap.size := hg.size
                  have hvl : p.threads.length * 64 ≤ 140737488351232 := HF.out.threads
                  have HX := Lib.hid hx
                  rw [hA]
                  clear hA hx
                  go_wp2_with (at_builtin; go_must (refine wpList_append_one rfl (.tmp 71) (.tmp 74) _ rfl _ _ W4.heap.size 9 i0 _ 1 16 Tryd.underlying23 hi0 hz0 hz1 hz2 rfl (by omega) (.slice A5 k c5) k _ (by rfl) _ (by rfl) (by simp) (by rfl) (by simp [Value.oneCell']) (by exact hown.alloc _) (by simp only [maxLen]; omega) (by omega) (by simp; omega) ?_); intro g1 k1 w1 hown1 hg1 hat1 hbg1 hgl1; have hb1 := (HB.out.alloc _).grown hg1 (own_blk_lt hown (by omega)); have e2 := hb1.cell 5; have f2 := hb1.frozen 5; have HB1 := Lib.hid hb1; clear hb1)
                  go_roundw
                  case rel =>
                    refine ⟨k + 1, _, _, by omega, by go_num, HB1.out.set_ 5 _, ?_, only_setCell (only_grown (only_alloc hg _) hg1 ?_) (.inl rfl) _⟩
                    · rw [take_map_succ _ HX.out]
                      exact ownsRow_setCell_other hown1 (by simp [Value.ownBlock]; omega) _
                    · intro j hj
                      exact .inr (hown.lt j hj).1
                  case measure => simp [intOf]; omega
                · obtain rfl : k = p.threads.length := by omega
                  clear hk hlt
                  obtain ⟨W5, rfl⟩ : ∃ x : World, x = wr := ⟨_, rfl⟩
                  obtain ⟨v5, hv5⟩ : ∃ v : Value, v = .slice A5 p.threads.length c5 := ⟨_, rfl⟩
                  rw [← hv5] at hown HB
                  have HOWN5_5 : Hid (W5.ownsRow (w.heap.size + 1 + 1 + 1) 9 1 v5 p.threads.length _) := own_base hown hs4
                  have HV5 := Lib.hid hv5; clear hown hv5
                  have HBLK5 := HB; clear HB
                  have HBOX5 := Lib.hid (HBOX4.out.only hg (by omega)); clear HBOX4
                  have HRES5 := Lib.hid (HRES4.out.only hg (by omega)); clear HRES4
                  have HBEL5 : Below w.heap.size w W5 := HBEL4.grown hg (by omega) (by intro k hk; injection hk; omega)
                  have hs5 : w.heap.size + 1 + 1 + 1 ≤ W5.heap.size := Nat.le_trans hs4 hg.size
                  have HOWN1_5 := Lib.hid (own_keep HOWN1_4.out hg (by omega)); clear HOWN1_4
                  have HOWN2_5 := Lib.hid (own_keep HOWN2_4.out hg (by omega)); clear HOWN2_4
                  have HOWN3_5 := Lib.hid (own_keep HOWN3_4.out hg (by omega)); clear HOWN3_4
                  have HOWN4_5 := Lib.hid (own_keep HOWN4_4.out hg (by omega)); clear HOWN4_4
                  clear hg HBLK4 HBEL4
                  obtain rfl := HV1.out
                  obtain rfl := HV2.out
                  obtain rfl := HV3.out
                  obtain rfl := HV4.out
                  obtain rfl := HV5.out
                  have hr5 : (W5.setRow (w.heap.size + 1) #[ns, .slice A1 p.vars.length c1, .slice A2 p.vols.length c2, .slice A3 p.locks.length c3, .slice A4 p.bars.length c4, .slice A5 p.threads.length c5]).heap[w.heap.size + 1]? = some (.cells #[ns, .slice A1 p.vars.length c1, .slice A2 p.vols.length c2, .slice A3 p.locks.length c3, .slice A4 p.bars.length c4, .slice A5 p.threads.length c5] 69 (0, 0)) := setRow_heap W5 (w.heap.size + 1) _ _ _ _ HRES5.out
                  have HR5 := Lib.hid hr5; clear hr5
                  go_wp2_with (first | (refine wpList_load_row rfl 69 _ rfl (w.heap.size + 1 + 1) (by rfl) 69 _ (0, 0) _ HBLK5.out Tryd.underlying69 rfl size_six ?_) | (refine wpList_store_row rfl 69 _ _ rfl (w.heap.size + 1) #[ns, .slice A1 p.vars.length c1, .slice A2 p.vols.length c2, .slice A3 p.locks.length c3, .slice A4 p.bars.length c4, .slice A5 p.threads.length c5] (by rfl) (by rfl) 69 _ HRES5.out size_six rfl (by simp [Value.oneCell']) ?_))
                  have hgr := only_setRow W5 (w.heap.size + 1) #[ns, .slice A1 p.vars.length c1, .slice A2 p.vols.length c2, .slice A3 p.locks.length c3, .slice A4 p.bars.length c4, .slice A5 p.threads.length c5]
                  refine bodyPost_ret (v := .agg #[ns, .slice A1 p.vars.length c1, .slice A2 p.vols.length c2, .slice A3 p.locks.length c3, .slice A4 p.bars.length c4, .slice A5 p.threads.length c5]) ?_ rfl ?_
                  · exact results_cell_row rfl _ _ (w.heap.size + 1) 69 _ (0, 0) _ rfl HR5.out Tryd.underlying69 rfl size_six
                  refine ⟨_, _, _, _, _, rfl, HBEL5.grown hgr (by omega) (by intro k hk; injection hk; omega), ?_, ?_, ?_, ?_, ?_⟩
                  · have h := own_base (base' := w.heap.size) (own_keep HOWN1_5.out hgr (by omega)) (by omega)
                    rw [take_all_map (fun x : Nam => x.name)] at h
                    exact h
                  · have h := own_base (base' := w.heap.size) (own_keep HOWN2_5.out hgr (by omega)) (by omega)
                    rw [take_all_map (fun x : Nam => x.name)] at h
                    exact h
                  · exact own_base (own_keep HOWN3_5.out hgr (by omega)) (by omega)
                  · have h := own_base (base' := w.heap.size) (own_keep HOWN4_5.out hgr (by omega)) (by omega)
                    rw [take_all_map (fun x : Nam => x.name)] at h
                    exact h
                  · have h := own_base (base' := w.heap.size) (own_keep HOWN5_5.out hgr (by omega)) (by omega)
                    rw [take_all_map (fun x : Thr => x.name)] at h
                    exact h

end Go.Proofs.YtknnbckmdfnmaaaDoor
