/- Contract of check.Check. Conditions: the program's data lies in memory and fits; parse's package variables are made. -/
import Derived.Test.YtgdnpmpnkbnjaaaGreatDoorZE
namespace Go.Proofs.YtgdnpmpnkbnjaaaGreatDoor
open Go.RowKit

set_option maxHeartbeats 4000000 in
set_option maxRecDepth 100000 in
theorem check_any (p : Prg) (w : World) (hf : p.Fits) (hin : p.In w w.heap.size) (hop : p.Ops) (gv : GV w.heap.size w) :
    Calls Tryz.prog 26 #[p.val] w fun e w' => e = .returned p.check.val ∧ Below w.heap.size w w' := by
  have HF := Lib.hid hf; clear hf
  have HI := Lib.hid hin; clear hin
  have HO := Lib.hid hop; clear hop
  have HG := Lib.hid gv; clear gv
  unfold Prg.val
  go_enter Tryz.func26, Tryz.ntmps26
  go_wp2_with fail
  generalize hW : World.alloc _ _ = W1
  have hb1 : Below w.heap.size w W1 := by subst hW; go_grown
  have hbox : Hid (Blk W1 w.heap.size 27 #[.slice p.Av p.vars.length p.cv, .slice p.Ao p.vols.length p.co, .slice p.Al p.locks.length p.cl, .slice p.Ab p.bars.length p.cb, .slice p.At p.threads.length p.ct]) := by
    subst hW
    exact (Blk.new w _ _).alloc _
  have hres : Hid (Blk W1 (w.heap.size + 1) 76 #[.int .i64 0, .int .i64 0, .int .i64 0]) := by
    subst hW
    exact (Blk.new _ _ _).moved (by simp)
  have hs1 : W1.heap.size = w.heap.size + 1 + 1 := by subst hW; simp
  clear hW
  refine (parts_any p W1 HF.out ((HI.out.below hb1).more (by omega))).mono ?_
  rintro e w1 ⟨v1, v2, v3, v4, v5, rfl, hb2, o1, o2, o3, o4, o5⟩
  have hB1 : w1.heap.size ≤ w1.heap.size := Nat.le_refl _
  obtain ⟨A1, c1, rfl, _, R1⟩ := RdL.of_own (l := p.names 1) (n := p.vars.length) (enc := encS) (fun _ => rfl) (by simp [Prg.names]) o1
  obtain ⟨A2, c2, rfl, _, R2⟩ := RdL.of_own (l := p.names 2) (n := p.vols.length) (enc := encS) (fun _ => rfl) (by simp [Prg.names]) o2
  obtain ⟨A3, c3, rfl, _, R3⟩ := RdL.of_own (l := p.names 3) (n := p.locks.length) (enc := encS) (fun _ => rfl) (by simp [Prg.names]) o3
  obtain ⟨A4, c4, rfl, _, R4⟩ := RdL.of_own (l := p.names 4) (n := p.bars.length) (enc := encS) (fun _ => rfl) (by simp [Prg.names]) o4
  obtain ⟨A5, c5, rfl, _, R5⟩ := RdL.of_own (l := p.names 5) (n := p.threads.length) (enc := encS) (fun _ => rfl) (by simp [Prg.names]) o5
  clear o1 o2 o3 o4 o5 hB1
  have hR := Lib.hid (And.intro R1 (And.intro R2 (And.intro R3 (And.intro R4 R5))))
  clear R1 R2 R3 R4 R5
  have hw1 := hb2.size
  have hbox1 : Hid (Blk w1 w.heap.size 27 #[.slice p.Av p.vars.length p.cv, .slice p.Ao p.vols.length p.co, .slice p.Al p.locks.length p.cl, .slice p.Ab p.bars.length p.cb, .slice p.At p.threads.length p.ct]) := hbox.out.below hb2 (by omega)
  have hres1 : Hid (Blk w1 (w.heap.size + 1) 76 #[.int .i64 0, .int .i64 0, .int .i64 0]) := hres.out.below hb2 (by omega)
  have HBW := Lib.hid (hb1.trans (hb2.mono (by omega)))
  clear hbox hres hb1
  go_wp2_with fail
  generalize hW2 : World.alloc _ _ = W2
  have hs2 : W2.heap.size = w1.heap.size + 1 := by subst hW2; simp
  have hb3 : Below w1.heap.size w1 W2 := by subst hW2; go_grown
  have hall : Blk W2 w1.heap.size 100 #[ns, .slice A1 p.vars.length c1, .slice A2 p.vols.length c2, .slice A3 p.locks.length c3, .slice A4 p.bars.length c4, .slice A5 p.threads.length c5] := by
    subst hW2
    exact Blk.new w1 _ _
  clear hW2
  have hA2 : Hid (AllIn W2 W2.heap.size w1.heap.size (five A1 A2 A3 A4 A5) (fiveC c1 c2 c3 c4 c5) p.names) := allIn_of hall (by omega) ((hR.out.1.below hb3).more (by omega)) ((hR.out.2.1.below hb3).more (by omega)) ((hR.out.2.2.1.below hb3).more (by omega)) ((hR.out.2.2.2.1.below hb3).more (by omega)) ((hR.out.2.2.2.2.below hb3).more (by omega))
  have hB2 : Below w.heap.size w W2 := HBW.out.trans (hb3.mono (by omega))
  have hbox2 : Hid (Blk W2 w.heap.size 27 #[.slice p.Av p.vars.length p.cv, .slice p.Ao p.vols.length p.co, .slice p.Al p.locks.length p.cl, .slice p.Ab p.bars.length p.cb, .slice p.At p.threads.length p.ct]) := hbox1.out.below hb3 (by omega)
  have hres2 : Hid (Blk W2 (w.heap.size + 1) 76 #[.int .i64 0, .int .i64 0, .int .i64 0]) := hres1.out.below hb3 (by omega)
  clear HBW hbox1 hres1 hR
  refine (counts_any A1 A2 A3 A4 A5 p.vars.length p.vols.length p.locks.length p.bars.length p.threads.length c1 c2 c3 c4 c5 _ W2 hall).mono ?_
  clear hall
  rintro e w3 ⟨rfl, hb4⟩
  have hw3 := hb4.size
  have hres3 := hres2.out.below hb4 (by omega)
  have hB3 : Below w.heap.size w w3 := hB2.trans (hb4.mono (by omega))
  by_cases hp0 : p.part0 = 0
  · have hc0 : cntPart p.vars.length p.vols.length p.locks.length p.bars.length p.threads.length = 0 := hp0
    rw [hc0, if_pos rfl]
    clear hc0
    have HP := Lib.hid hp0
    unfold spotV
    have hA3 := Lib.hid (hA2.out.below hb4)
    have hbox3 := Lib.hid (hbox2.out.below hb4 (by omega))
    rcases hsc : scanP p.names 6 0 [] with _ | ⟨er, pa, ix⟩
    · have HSC := Lib.hid hsc; clear hsc
      go_wp2_with (go_at_call 47; refine (called_any _ W2.heap.size w1.heap.size (five A1 A2 A3 A4 A5) (fiveC c1 c2 c3 c4 c5) p.names (by simp; omega) (hA3.out.below ((Below.refl _ _).alloc hw3 _)) (((HG.out.below hB3).more (by have := hB2.size; omega)).below ((Below.refl _ _).alloc hw3 _)) (names_len HP.out) (names_size HF.out)).mono ?_; rintro e w4 ⟨rfl, hb5⟩; rw [HSC.out]; simp only [scanV, spotV]; have hb6 : Below w3.heap.size w3 w4 := ((Below.refl _ _).alloc (Nat.le_refl _) _).trans (hb5.mono (by simp)); have hw4 := hb6.size; have hres4 := hres3.below hb6 hres3.lt; have hbox4 := hbox3.out.below hb6 hbox3.out.lt; have hB4 := hB3.trans (hb6.mono (by omega)); have b3 : w4.cell? ⟨w.heap.size, 3, none⟩ = some (.slice p.Ab p.bars.length p.cb) := hbox4.cell 3; have hlx : w.heap.size < w4.heap.size := hbox4.lt)
      generalize hW5 : World.alloc _ _ = W5
      have hb7 : Below w4.heap.size w4 W5 := by subst hW5; go_grown
      have hs5 : w4.heap.size + 1 ≤ W5.heap.size := by subst hW5; simp
      clear hW5
      have hres5 := Lib.hid (hres4.below hb7 hres4.lt)
      have hbox5 := Lib.hid (hbox4.below hb7 hbox4.lt)
      have hB5 := hB4.trans (hb7.mono (by omega))
      have hA5 := Lib.hid (hA3.out.below ((hb6.mono hw3).trans (hb7.mono (by omega))))
      have hw5 : W2.heap.size ≤ W5.heap.size := by omega
      clear hres4 hbox4 hB4 hres3 hB3 hB2 hA3 hA2 hbox2 hres2 hbox3 b3
      have h64 : p.bars.length * 24 ≤ 140737488351232 := HF.out.bars
      go_loopw [37] (fun i wr => ∃ k : Nat, k ≤ p.bars.length ∧ i = .int .i64 k ∧ scanB p.bars 0 = scanB (p.bars.drop k) k ∧ Below W5.heap.size W5 wr) (fun i _ => p.bars.length - (intOf i).toNat)
      case atStart => exact ⟨0, by omega, rfl, rfl, Below.refl _ _⟩
      case round =>
        obtain ⟨k, hk, rfl, hsb, hb8⟩ := hrel
        have HSB := Lib.hid hsb; clear hsb
        have hwr := hb8.size
        have hBr : Below w.heap.size w wr := hB5.trans (hb8.mono (by omega))
        have hresr := hres5.out.below hb8 hres5.out.lt
        by_cases hlt : k < p.bars.length
        · obtain ⟨x, hx0⟩ := get_some hlt
          obtain ⟨g, off, hA, hgB, r0, r1⟩ := (HI.out.bars.below hBr).nam hx0
          have HX := Lib.hid hx0
          clear hx0
          rw [hA]
          clear hA
          by_cases hbad : x.num < 1 ∨ 65535 < x.num
          · have hfin := Lib.hid (check_bar HP.out HSC.out (i := k) (by rw [HSB.out, drop_at HX.out, scanB, if_pos hbad]))
            have d0 : wr.cell? ⟨w.heap.size + 1, 0, none⟩ = some (.int .i64 0) := hresr.cell 0
            have d1 : wr.cell? ⟨w.heap.size + 1, 1, none⟩ = some (.int .i64 0) := hresr.cell 1
            have d2 : wr.cell? ⟨w.heap.size + 1, 2, none⟩ = some (.int .i64 0) := hresr.cell 2
            have hl3 : w.heap.size + 1 < wr.heap.size := hresr.lt
            have e0 := hresr.frozen 0
            have e1 := hresr.frozen 1
            have e2 := hresr.frozen 2
            rcases Int.lt_or_le x.num 1 with h1 | h1
            · clear hbad
              go_wp2_with fail
              try simp only [Exit.inBlock, Exit.then]
              refine bodyPost_ret (v := Spot.val ⟨113, 4, k, 0⟩) ?_ rfl ?_
              · refine results_tmp_cell (t := 2) (p := 3) rfl _ _ (w.heap.size + 1) 76 #[.int .i64 4, .int .i64 k, .int .i64 0] (0, 0) _ (by rfl) (by first | exact ((hresr.set_ 0 _).set_ 1 _).set_ 2 _ | exact (((hresr.set_ 0 _).set_ 1 _).set_ 2 _).alloc _ | exact ((((hresr.set_ 0 _).set_ 1 _).set_ 2 _).alloc _).alloc _) Tryz.underlying76 rfl size_spot
              exact ⟨(congrArg (fun s => Ending.returned (Spot.val s)) hfin.out).symm, by repeat' (first | (with_reducible exact Below.refl _ _) | (with_reducible assumption) | (with_reducible refine below_drewN ?_ _) | (with_reducible refine Below.drew ?_) | (with_reducible refine Below.alloc ?_ ?_ _) | (with_reducible refine Below.setCell ?_ ?_ _) | go_size)⟩
            · have h2 : 65535 < x.num := by omega
              clear hbad
              go_wp2_with fail
              try simp only [Exit.inBlock, Exit.then]
              refine bodyPost_ret (v := Spot.val ⟨113, 4, k, 0⟩) ?_ rfl ?_
              · refine results_tmp_cell (t := 2) (p := 3) rfl _ _ (w.heap.size + 1) 76 #[.int .i64 4, .int .i64 k, .int .i64 0] (0, 0) _ (by rfl) (by first | exact ((hresr.set_ 0 _).set_ 1 _).set_ 2 _ | exact (((hresr.set_ 0 _).set_ 1 _).set_ 2 _).alloc _ | exact ((((hresr.set_ 0 _).set_ 1 _).set_ 2 _).alloc _).alloc _) Tryz.underlying76 rfl size_spot
              exact ⟨(congrArg (fun s => Ending.returned (Spot.val s)) hfin.out).symm, by repeat' (first | (with_reducible exact Below.refl _ _) | (with_reducible assumption) | (with_reducible refine below_drewN ?_ _) | (with_reducible refine Below.drew ?_) | (with_reducible refine Below.alloc ?_ ?_ _) | (with_reducible refine Below.setCell ?_ ?_ _) | go_size)⟩
          · have h1 : 1 ≤ x.num := by omega
            have h2 : x.num ≤ 65535 := by omega
            have HBAD := Lib.hid hbad
            clear hbad
            go_wp2_with fail
            go_roundw
            case rel => exact ⟨k + 1, by omega, by go_num, by rw [HSB.out, drop_at HX.out, scanB, if_neg HBAD.out], hb8.alloc (by omega) _⟩
            case measure => simp [intOf]; omega
        · obtain rfl : k = p.bars.length := by omega
          have hBS : Hid (scanB p.bars 0 = none) := by
            show _ = _
            rw [HSB.out, List.drop_of_length_le (Nat.le_refl _)]
            rfl
          have hboxr := hbox5.out.below hb8 hbox5.out.lt
          have hAr := Lib.hid (hA5.out.below (hb8.mono (by omega)))
          have b4 : wr.cell? ⟨w.heap.size, 4, none⟩ = some (.slice p.At p.threads.length p.ct) := hboxr.cell 4
          have hlx : w.heap.size < wr.heap.size := hboxr.lt
          clear hboxr
          obtain ⟨wo, rfl⟩ : ∃ x : World, x = wr := ⟨_, rfl⟩
          go_wp2_with fail
          have h65 : p.threads.length * 64 ≤ 140737488351232 := HF.out.threads
          go_loopw [11, 56] (fun s i wq => ∃ k sum : Nat, k ≤ p.threads.length ∧ i = .int .i64 k ∧ s = .int .i64 sum ∧ sum ≤ 262144 ∧ scanT p.cnt p.threads 0 0 = scanT p.cnt (p.threads.drop k) k sum ∧ Below wo.heap.size wo wq) (fun s i _ => p.threads.length - (intOf i).toNat)
          case atStart => exact ⟨0, 0, by omega, rfl, rfl, by omega, rfl, Below.refl _ _⟩
          case round =>
            obtain ⟨k, sum, hk, rfl, rfl, hsum, hst, hb10⟩ := hrel
            have HST := Lib.hid hst; clear hst
            have hwq := hb10.size
            have hBq : Below w.heap.size w wr := hBr.trans (hb10.mono (by omega))
            have hresq := hresr.below hb10 hresr.lt
            by_cases hlt : k < p.threads.length
            · obtain ⟨x, hx0⟩ := get_some hlt
              obtain ⟨g, off, hA, hgB, r0, r1, r2⟩ := (HI.out.threads.below hBq).thr hx0
              have HX := Lib.hid hx0
              clear hx0
              rw [hA]
              clear hA
              have h40 : x.code.length * 40 ≤ 140737488355328 := (HF.out.fthreads _ (get_mem HX.out)).code
              by_cases hbad : x.code.length = 0 ∨ 4096 < x.code.length ∨ 262144 < sum + x.code.length
              · have hfin := Lib.hid (check_thr HP.out HSC.out hBS.out (e := 114) (i := k) (a := 0) (by rw [HST.out, drop_at HX.out, scanT, if_pos hbad]))
                have d0 : wr.cell? ⟨w.heap.size + 1, 0, none⟩ = some (.int .i64 0) := hresq.cell 0
                have d1 : wr.cell? ⟨w.heap.size + 1, 1, none⟩ = some (.int .i64 0) := hresq.cell 1
                have d2 : wr.cell? ⟨w.heap.size + 1, 2, none⟩ = some (.int .i64 0) := hresq.cell 2
                have hl3 : w.heap.size + 1 < wr.heap.size := hresq.lt
                have e0 := hresq.frozen 0
                have e1 := hresq.frozen 1
                have e2 := hresq.frozen 2
                have h3 : ((x.code.length : Int) == 0) = true ∨ ((x.code.length : Int) == 0) = false ∧ (4096 : Int) < x.code.length ∨ ((x.code.length : Int) == 0) = false ∧ (x.code.length : Int) ≤ 4096 ∧ (262144 : Int) < sum + x.code.length := by
                  simp only [beq_iff_eq, beq_eq_false_iff_ne]
                  omega
                clear hbad
                rcases h3 with h1 | ⟨h1, h2⟩ | ⟨h1, h2, h3⟩
                all_goals
                  go_wp2_with fail
                  try simp only [Exit.inBlock, Exit.then]
                  refine bodyPost_ret (v := Spot.val ⟨114, 5, k, 0⟩) ?_ rfl ?_
                  · refine results_tmp_cell (t := 2) (p := 3) rfl _ _ (w.heap.size + 1) 76 #[.int .i64 5, .int .i64 k, .int .i64 0] (0, 0) _ (by rfl) (by first | exact ((hresq.set_ 0 _).set_ 1 _).set_ 2 _ | exact (((hresq.set_ 0 _).set_ 1 _).set_ 2 _).alloc _ | exact ((((hresq.set_ 0 _).set_ 1 _).set_ 2 _).alloc _).alloc _) Tryz.underlying76 rfl size_spot
                  exact ⟨(congrArg (fun s => Ending.returned (Spot.val s)) hfin.out).symm, by repeat' (first | (with_reducible exact Below.refl _ _) | (with_reducible assumption) | (with_reducible refine below_drewN ?_ _) | (with_reducible refine Below.drew ?_) | (with_reducible refine Below.alloc ?_ ?_ _) | (with_reducible refine Below.setCell ?_ ?_ _) | go_size)⟩
              · have HBAD := Lib.hid hbad
                have hlc : 1 ≤ x.code.length := by omega
                have h1 : ((x.code.length : Int) == 0) = false := by rw [beq_eq_false_iff_ne]; omega
                have h2 : (x.code.length : Int) ≤ 4096 := by omega
                have h3 : (sum : Int) + x.code.length ≤ 262144 := by omega
                clear hbad
                obtain ⟨er, at_, hr⟩ : ∃ er at_, threadR x (fun k => (p.names k).length) = (er, at_) := ⟨_, _, rfl⟩
                have HR := Lib.hid hr; clear hr
                have HIN := Lib.hid (((HI.out.thr _ (get_mem HX.out)).below hBq).more (show w.heap.size ≤ W2.heap.size by omega) |>.below ((Below.refl W2.heap.size wr).alloc (by omega) (.cells #[.string x.name, .slice x.Ac x.code.length x.cc, .slice x.Ap x.places.length x.cp] 49)))
                have HAR := Lib.hid (hAr.out.below (hb10.mono (by omega)))
                by_cases her : er = 0
                · subst her
                  go_wp2_with (go_at_call 48; refine (thread_any x _ W2.heap.size w1.heap.size (five A1 A2 A3 A4 A5) (fiveC c1 c2 c3 c4 c5) p.names (by simp; omega) (HAR.out.below ((Below.refl _ _).alloc (by omega) _)) HIN.out (HF.out.fthreads _ (get_mem HX.out)) hlc (HO.out _ (get_mem HX.out))).mono ?_; rintro e w9 ⟨rfl, hb11⟩; rw [HR.out]; unfold pairV; have hb12 : Below wr.heap.size wr w9 := ((Below.refl _ _).alloc (Nat.le_refl _) _).trans (hb11.mono (by simp)); have hw9 := hb12.size; have hres9 := hresq.below hb12 hresq.lt; have hB9 := hBq.trans (hb12.mono (by omega)); have d0 : w9.cell? ⟨w.heap.size + 1, 0, none⟩ = some (.int .i64 0) := hres9.cell 0; have d1 : w9.cell? ⟨w.heap.size + 1, 1, none⟩ = some (.int .i64 0) := hres9.cell 1; have d2 : w9.cell? ⟨w.heap.size + 1, 2, none⟩ = some (.int .i64 0) := hres9.cell 2; have hl3 : w.heap.size + 1 < w9.heap.size := hres9.lt; have e0 := hres9.frozen 0; have e1 := hres9.frozen 1; have e2 := hres9.frozen 2)
                  go_roundw
                  case rel =>
                    refine ⟨k + 1, sum + x.code.length, by omega, by go_num, by go_num, by omega, ?_, hb10.trans (hb12.mono (by omega))⟩
                    rw [HST.out, drop_at HX.out, scanT, if_neg HBAD.out]
                    show (if (threadR x (fun k => (p.names k).length)).1 = 0 then _ else some ((threadR x (fun k => (p.names k).length)).1, k, (threadR x (fun k => (p.names k).length)).2)) = _
                    rw [HR.out]
                    exact if_pos rfl
                  case measure => simp [intOf]; omega
                · have her1 : (er != 0) = true := by rw [bne_iff_ne]; exact her
                  have hfin := Lib.hid (check_thr HP.out HSC.out hBS.out (e := er) (i := k) (a := at_) (by rw [HST.out, drop_at HX.out, scanT, if_neg HBAD.out]; show (if (threadR x (fun k => (p.names k).length)).1 = 0 then _ else some ((threadR x (fun k => (p.names k).length)).1, k, (threadR x (fun k => (p.names k).length)).2)) = _; rw [HR.out]; exact if_neg her))
                  clear her
                  go_wp2_with (go_at_call 48; refine (thread_any x _ W2.heap.size w1.heap.size (five A1 A2 A3 A4 A5) (fiveC c1 c2 c3 c4 c5) p.names (by simp; omega) (HAR.out.below ((Below.refl _ _).alloc (by omega) _)) HIN.out (HF.out.fthreads _ (get_mem HX.out)) hlc (HO.out _ (get_mem HX.out))).mono ?_; rintro e w9 ⟨rfl, hb11⟩; rw [HR.out]; unfold pairV; have hb12 : Below wr.heap.size wr w9 := ((Below.refl _ _).alloc (Nat.le_refl _) _).trans (hb11.mono (by simp)); have hw9 := hb12.size; have hres9 := hresq.below hb12 hresq.lt; have hB9 := hBq.trans (hb12.mono (by omega)); have d0 : w9.cell? ⟨w.heap.size + 1, 0, none⟩ = some (.int .i64 0) := hres9.cell 0; have d1 : w9.cell? ⟨w.heap.size + 1, 1, none⟩ = some (.int .i64 0) := hres9.cell 1; have d2 : w9.cell? ⟨w.heap.size + 1, 2, none⟩ = some (.int .i64 0) := hres9.cell 2; have hl3 : w.heap.size + 1 < w9.heap.size := hres9.lt; have e0 := hres9.frozen 0; have e1 := hres9.frozen 1; have e2 := hres9.frozen 2)
                  try simp only [Exit.inBlock, Exit.then]
                  refine bodyPost_ret (v := Spot.val ⟨er, 5, k, at_⟩) ?_ rfl ?_
                  · refine results_tmp_cell (t := 2) (p := 3) rfl _ _ (w.heap.size + 1) 76 #[.int .i64 5, .int .i64 k, .int .i64 at_] (0, 0) _ (by rfl) (by first | exact ((hres9.set_ 0 _).set_ 1 _).set_ 2 _ | exact (((hres9.set_ 0 _).set_ 1 _).set_ 2 _).alloc _ | exact ((((hres9.set_ 0 _).set_ 1 _).set_ 2 _).alloc _).alloc _) Tryz.underlying76 rfl size_spot
                  exact ⟨(congrArg (fun s => Ending.returned (Spot.val s)) hfin.out).symm, by repeat' (first | (with_reducible exact Below.refl _ _) | (with_reducible assumption) | (with_reducible refine below_drewN ?_ _) | (with_reducible refine Below.drew ?_) | (with_reducible refine Below.alloc ?_ ?_ _) | (with_reducible refine Below.setCell ?_ ?_ _) | go_size)⟩
            · obtain rfl : k = p.threads.length := by omega
              have hfin := Lib.hid (check_ok HP.out HSC.out hBS.out (by rw [HST.out, List.drop_of_length_le (Nat.le_refl _)]; rfl))
              have d0 : wr.cell? ⟨w.heap.size + 1, 0, none⟩ = some (.int .i64 0) := hresq.cell 0
              have d1 : wr.cell? ⟨w.heap.size + 1, 1, none⟩ = some (.int .i64 0) := hresq.cell 1
              have d2 : wr.cell? ⟨w.heap.size + 1, 2, none⟩ = some (.int .i64 0) := hresq.cell 2
              have hl3 : w.heap.size + 1 < wr.heap.size := hresq.lt
              have e0 := hresq.frozen 0
              have e1 := hresq.frozen 1
              have e2 := hresq.frozen 2
              go_wp2_with fail
              try simp only [Exit.inBlock, Exit.then]
              refine bodyPost_ret (v := Spot.val ⟨0, 0, 0, 0⟩) ?_ rfl ?_
              · refine results_tmp_cell (t := 2) (p := 3) rfl _ _ (w.heap.size + 1) 76 #[.int .i64 0, .int .i64 0, .int .i64 0] (0, 0) _ (by rfl) (by first | exact ((hresq.set_ 0 _).set_ 1 _).set_ 2 _ | exact (((hresq.set_ 0 _).set_ 1 _).set_ 2 _).alloc _ | exact ((((hresq.set_ 0 _).set_ 1 _).set_ 2 _).alloc _).alloc _) Tryz.underlying76 rfl size_spot
              exact ⟨(congrArg (fun s => Ending.returned (Spot.val s)) hfin.out).symm, by repeat' (first | (with_reducible exact Below.refl _ _) | (with_reducible assumption) | (with_reducible refine below_drewN ?_ _) | (with_reducible refine Below.drew ?_) | (with_reducible refine Below.alloc ?_ ?_ _) | (with_reducible refine Below.setCell ?_ ?_ _) | go_size)⟩
    · have her : (er != 0) = true := by
        rcases scanP_err hsc with h | h <;> rw [h] <;> decide
      have hfin := Lib.hid (check_scan HP.out hsc)
      have HSC := Lib.hid hsc; clear hsc
      go_wp2_with (go_at_call 47; refine (called_any _ W2.heap.size w1.heap.size (five A1 A2 A3 A4 A5) (fiveC c1 c2 c3 c4 c5) p.names (by simp; omega) (hA3.out.below ((Below.refl _ _).alloc hw3 _)) (((HG.out.below hB3).more (by have := hB2.size; omega)).below ((Below.refl _ _).alloc hw3 _)) (names_len HP.out) (names_size HF.out)).mono ?_; rintro e w4 ⟨rfl, hb5⟩; rw [HSC.out]; simp only [scanV, spotV]; have hb6 : Below w3.heap.size w3 w4 := ((Below.refl _ _).alloc (Nat.le_refl _) _).trans (hb5.mono (by simp)); have hw4 := hb6.size; have hres4 := hres3.below hb6 hres3.lt; have hbox4 := hbox3.out.below hb6 hbox3.out.lt; have hB4 := hB3.trans (hb6.mono (by omega)); have b3 : w4.cell? ⟨w.heap.size, 3, none⟩ = some (.slice p.Ab p.bars.length p.cb) := hbox4.cell 3; have hlx : w.heap.size < w4.heap.size := hbox4.lt)
      have d0 : w4.cell? ⟨w.heap.size + 1, 0, none⟩ = some (.int .i64 0) := hres4.cell 0
      have d1 : w4.cell? ⟨w.heap.size + 1, 1, none⟩ = some (.int .i64 0) := hres4.cell 1
      have d2 : w4.cell? ⟨w.heap.size + 1, 2, none⟩ = some (.int .i64 0) := hres4.cell 2
      have hl3 : w.heap.size + 1 < w4.heap.size := hres4.lt
      have e0 := hres4.frozen 0
      have e1 := hres4.frozen 1
      have e2 := hres4.frozen 2
      go_region
      all_goals
        go_wp2_with fail
        try simp only [Exit.inBlock, Exit.then]
        refine bodyPost_ret (v := Spot.val ⟨er, pa, ix, 0⟩) ?_ rfl ?_
        · refine results_tmp_cell (t := 2) (p := 3) rfl _ _ (w.heap.size + 1) 76 #[.int .i64 pa, .int .i64 ix, .int .i64 0] (0, 0) _ (by rfl) ((((hres4.set_ 0 _).set_ 1 _).set_ 2 _).alloc _).drew Tryz.underlying76 rfl size_spot
        exact ⟨(congrArg (fun s => Ending.returned (Spot.val s)) hfin.out).symm, by repeat' (first | (with_reducible exact Below.refl _ _) | (with_reducible assumption) | (with_reducible refine below_drewN ?_ _) | (with_reducible refine Below.drew ?_) | (with_reducible refine Below.alloc ?_ ?_ _) | (with_reducible refine Below.setCell ?_ ?_ _) | go_size)⟩
  · have hfin := Lib.hid (check_cnt hp0)
    have hp1 : cntPart p.vars.length p.vols.length p.locks.length p.bars.length p.threads.length = p.part0 := rfl
    rw [hp1, if_neg hp0]
    clear hp1
    unfold spotV
    have d0 : w3.cell? ⟨w.heap.size + 1, 0, none⟩ = some (.int .i64 0) := hres3.cell 0
    have d1 : w3.cell? ⟨w.heap.size + 1, 1, none⟩ = some (.int .i64 0) := hres3.cell 1
    have d2 : w3.cell? ⟨w.heap.size + 1, 2, none⟩ = some (.int .i64 0) := hres3.cell 2
    have hl3 : w.heap.size + 1 < w3.heap.size := hres3.lt
    have e0 := hres3.frozen 0
    have e1 := hres3.frozen 1
    have e2 := hres3.frozen 2
    go_wp2_with fail
    go_region
    all_goals
      go_wp2_with fail
      try simp only [Exit.inBlock, Exit.then]
      refine bodyPost_ret (v := Spot.val ⟨110, p.part0, 0, 0⟩) ?_ rfl ?_
      · refine results_tmp_cell (t := 2) (p := 3) rfl _ _ (w.heap.size + 1) 76 #[.int .i64 p.part0, .int .i64 0, .int .i64 0] (0, 0) _ (by rfl) ((((hres3.set_ 0 _).set_ 1 _).set_ 2 _).alloc _).drew Tryz.underlying76 rfl size_spot
      exact ⟨(congrArg (fun s => Ending.returned (Spot.val s)) hfin.out).symm, by repeat' (first | (with_reducible exact Below.refl _ _) | (with_reducible assumption) | (with_reducible refine below_drewN ?_ _) | (with_reducible refine Below.drew ?_) | (with_reducible refine Below.alloc ?_ ?_ _) | (with_reducible refine Below.setCell ?_ ?_ _) | go_size)⟩
end Go.Proofs.YtgdnpmpnkbnjaaaGreatDoor
