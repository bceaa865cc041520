/- Contract of abreastlaw13.FlowAlone: true. Conditions: those of asked. -/
import Derived.Test.YtgdnpmpnkbnjaaaGreatDoorZAloneLaw
namespace Go.Proofs.YtgdnpmpnkbnjaaaGreatDoor
open Go.RowKit

set_option maxRecDepth 100000 in
set_option maxHeartbeats 4000000 in
theorem flowAlone_any (p : Prg) (w : World) (hE : Env p w) : Calls Tryz.prog 3 #[p.val] w fun e w' => e = .returned (.bool true) ∧ Below w.heap.size w w' := by
  have HE := Lib.hid hE; clear hE
  have hle := HE.out.fits.vars
  have hle2 := HE.out.fits.threads
  have hb0 : Hid (Below w.heap.size w (w.alloc (.cells p.cells 27))) := Lib.hid (by go_grown)
  have hbx : Hid (Blk (w.alloc (.cells p.cells 27)) w.heap.size 27 p.cells) := Lib.hid (Blk.new w _ _)
  by_cases hc : p.check.e = 0
  · have HC := Lib.hid hc
    have HA : Hid (askedN p 0 = 0) := Lib.hid (asked_of hc (k := 0) (good_of hc).thr1)
    have hv : p.vars.length ≤ 4096 := (good_of hc).vars
    have ht : p.threads.length ≤ 65535 := (good_of hc).thr2
    clear hc
    unfold Prg.val
    go_enter Tryz.func3, Tryz.ntmps3
    go_wp2_with (go_at_call 5; refine (alone_any p (w.alloc (.cells p.cells 27)) (HE.out.keep hb0.out)).mono ?_; rintro e w2 ⟨A2, c2, rfl, ⟨hr, _⟩, hb⟩; have HR := Lib.hid hr; have HBX := Lib.hid (hbx.out.below hb (by simp)); have HB := Lib.hid (hb0.out.trans (hb.mono (by simp))); clear hr hb; rw [HA.out])
    have hal := alone_len p
    go_loopw [5, 6] (fun lv iv wr => ∃ i : Nat, iv = .int .i64 i ∧ i ≤ (aloneL p).length ∧ lv = .int .i64 (lastOf (aloneL p) i) ∧ Below w2.heap.size w2 wr) (fun _ iv _ => (aloneL p).length - (intOf iv).toNat)
    case atStart => exact ⟨0, rfl, by omega, rfl, Below.refl _ _⟩
    case round =>
      obtain ⟨i, rfl, hi, rfl, hbl⟩ := hrel
      have HBL := Lib.hid hbl
      clear hbl
      by_cases hil : i < (aloneL p).length
      · have hi2 : (i : Int) < ((aloneL p).length : Int) := by omega
        obtain ⟨y, hy⟩ := get_some hil
        have hyl := alone_lt hy
        have hlast := lastOf_lt (alone_sorted p) hy
        have HLS := Lib.hid (lastOf_succ hy)
        obtain ⟨g, off, rfl, hg, hcy⟩ := ((HR.out.below HBL.out).more HBL.out.size).nat hy
        have d1 : decide ((y : Int) ≤ lastOf (aloneL p) i) = false := by simp; omega
        have d2 : decide ((p.vars.length : Int) ≤ (y : Int)) = false := by simp; omega
        have d3 : decide (p.vars.length ≤ y) = false := by simp; omega
        have hbw := HBX.out.below HBL.out HBX.out.lt
        have c0 : wr.cell? ⟨w.heap.size, 0, none⟩ = some (.slice p.Av p.vars.length p.cv) := hbw.cell 0
        have hlx := hbw.lt
        clear hy hlast hbw
        generalize lastOf (aloneL p) i = la at *
        go_wp2_with fail
        go_quiet (fail)
        go_wp2_with fail
        go_roundw
        case rel => exact ⟨i + 1, by go_num, by omega, by rw [HLS.out], by repeat' (first | (with_reducible exact HBL.out) | (with_reducible refine below_drewN ?_ _) | (with_reducible refine Below.drew ?_))⟩
        case measure => simp [intOf]; omega
      · obtain rfl : i = (aloneL p).length := by omega
        have hd : decide (((aloneL p).length : Int) < ((aloneL p).length : Int)) = false := by simp
        generalize hla : lastOf (aloneL p) (aloneL p).length = la
        clear hla
        go_wp2_with fail
        go_loopw [7] (fun iv wq => ∃ v : Nat, iv = .int .i64 v ∧ v ≤ p.vars.length ∧ Below w2.heap.size w2 wq) (fun iv _ => p.vars.length - (intOf iv).toNat)
        case atStart => exact ⟨0, rfl, by omega, HBL.out⟩
        case round =>
          obtain ⟨v, rfl, hvv, hbl2⟩ := hrel
          have HB5 := Lib.hid hbl2
          have hbw5 := HBX.out.below hbl2 HBX.out.lt
          have c0 : wr.cell? ⟨w.heap.size, 0, none⟩ = some (.slice p.Av p.vars.length p.cv) := hbw5.cell 0
          have hlx := hbw5.lt
          clear hbl2 hbw5
          by_cases hvl : v < p.vars.length
          · have hv2 : (v : Int) < (p.vars.length : Int) := by omega
            go_wp2_with fail
            clear c0 hlx
            go_loopw [8, 9, 10] (fun uv wv kv wq => ∃ k : Nat, kv = .int .i64 k ∧ k ≤ p.threads.length ∧ uv = .int .i64 (cusN p k v : Int) ∧ wv = .int .i64 (cwrN p k v : Int) ∧ Below w2.heap.size w2 wq) (fun _ _ kv _ => p.threads.length - (intOf kv).toNat)
            case atStart => exact ⟨0, rfl, by omega, rfl, rfl, HB5.out⟩
            case round =>
              obtain ⟨k, rfl, hk, rfl, rfl, hbl3⟩ := hrel
              have HB6 := Lib.hid hbl3
              have HBX6 := Lib.hid (HBX.out.below hbl3 HBX.out.lt)
              have HE6 := Lib.hid ((HE.out.keep HB.out).keep hbl3)
              clear hbl3
              have d0 : wr.cell? ⟨w.heap.size, 0, none⟩ = some (.slice p.Av p.vars.length p.cv) := HBX6.out.cell 0
              have d1 : wr.cell? ⟨w.heap.size, 1, none⟩ = some (.slice p.Ao p.vols.length p.co) := HBX6.out.cell 1
              have d2 : wr.cell? ⟨w.heap.size, 2, none⟩ = some (.slice p.Al p.locks.length p.cl) := HBX6.out.cell 2
              have d3 : wr.cell? ⟨w.heap.size, 3, none⟩ = some (.slice p.Ab p.bars.length p.cb) := HBX6.out.cell 3
              have d4 : wr.cell? ⟨w.heap.size, 4, none⟩ = some (.slice p.At p.threads.length p.ct) := HBX6.out.cell 4
              have hlx := HBX6.out.lt
              have n1 := cusN_le p k v
              have n2 := cwrN_le p k v
              by_cases hkl : k < p.threads.length
              · have hk2 : (k : Int) < (p.threads.length : Int) := by omega
                have HAK : Hid (askedN p (k : Int) = 0) := Lib.hid (asked_of HC.out hkl)
                have HCL := Lib.hid (fun j (hj : j < 9) => touchesL_len HC.out hkl hj)
                go_wp2_with (go_at_call 7; refine (touchesP_any p k wr HE6.out).mono ?_; rintro e w7 ⟨A3, c3, rfl, ⟨ht7, _⟩, hb7⟩; have HT7 := Lib.hid ht7; have HB7 := Lib.hid hb7; unfold touchV; rw [HAK.out]; clear ht7 hb7)
                have hb78 : Hid (Below w7.heap.size w7 (w7.alloc (.cells #[.slice (A3 0) (touchesL p (k : Int) 0).length (c3 0), .slice (A3 1) (touchesL p (k : Int) 1).length (c3 1), .slice (A3 2) (touchesL p (k : Int) 2).length (c3 2), .slice (A3 3) (touchesL p (k : Int) 3).length (c3 3), .slice (A3 4) (touchesL p (k : Int) 4).length (c3 4), .slice (A3 5) (touchesL p (k : Int) 5).length (c3 5), .slice (A3 6) (touchesL p (k : Int) 6).length (c3 6), .slice (A3 7) (touchesL p (k : Int) 7).length (c3 7), .slice (A3 8) (touchesL p (k : Int) 8).length (c3 8)] 34))) := Lib.hid (Below.alloc (Below.refl _ _) (Nat.le_refl _) _)
                have hx8 : Hid (Blk (w7.alloc (.cells #[.slice (A3 0) (touchesL p (k : Int) 0).length (c3 0), .slice (A3 1) (touchesL p (k : Int) 1).length (c3 1), .slice (A3 2) (touchesL p (k : Int) 2).length (c3 2), .slice (A3 3) (touchesL p (k : Int) 3).length (c3 3), .slice (A3 4) (touchesL p (k : Int) 4).length (c3 4), .slice (A3 5) (touchesL p (k : Int) 5).length (c3 5), .slice (A3 6) (touchesL p (k : Int) 6).length (c3 6), .slice (A3 7) (touchesL p (k : Int) 7).length (c3 7), .slice (A3 8) (touchesL p (k : Int) 8).length (c3 8)] 34)) w7.heap.size 34 #[.slice (A3 0) (touchesL p (k : Int) 0).length (c3 0), .slice (A3 1) (touchesL p (k : Int) 1).length (c3 1), .slice (A3 2) (touchesL p (k : Int) 2).length (c3 2), .slice (A3 3) (touchesL p (k : Int) 3).length (c3 3), .slice (A3 4) (touchesL p (k : Int) 4).length (c3 4), .slice (A3 5) (touchesL p (k : Int) 5).length (c3 5), .slice (A3 6) (touchesL p (k : Int) 6).length (c3 6), .slice (A3 7) (touchesL p (k : Int) 7).length (c3 7), .slice (A3 8) (touchesL p (k : Int) 8).length (c3 8)]) := Lib.hid (Blk.new _ _ _)
                generalize w7.alloc (.cells #[.slice (A3 0) (touchesL p (k : Int) 0).length (c3 0), .slice (A3 1) (touchesL p (k : Int) 1).length (c3 1), .slice (A3 2) (touchesL p (k : Int) 2).length (c3 2), .slice (A3 3) (touchesL p (k : Int) 3).length (c3 3), .slice (A3 4) (touchesL p (k : Int) 4).length (c3 4), .slice (A3 5) (touchesL p (k : Int) 5).length (c3 5), .slice (A3 6) (touchesL p (k : Int) 6).length (c3 6), .slice (A3 7) (touchesL p (k : Int) 7).length (c3 7), .slice (A3 8) (touchesL p (k : Int) 8).length (c3 8)] 34) = w8 at *
                have hT8 : Hid (TouchAt w8 w8.heap.size A3 (touchesL p (k : Int))) := Lib.hid (fun j hj => ((HT7.out j hj).below hb78.out).more hb78.out.size)
                have hB8 : Hid (Below w2.heap.size w2 w8) := Lib.hid (HB6.out.trans ((HB7.out.trans (hb78.out.mono HB7.out.size)).mono HB6.out.size))
                clear d0 d1 d2 d3 d4 hlx
                have r0 : w8.cell? ⟨w7.heap.size, 0, none⟩ = some (.slice (A3 0) (touchesL p (k : Int) 0).length (c3 0)) := hx8.out.cell 0
                have r1 : w8.cell? ⟨w7.heap.size, 1, none⟩ = some (.slice (A3 1) (touchesL p (k : Int) 1).length (c3 1)) := hx8.out.cell 1
                have hlr := hx8.out.lt
                rcases hbr : hasB (touchesL p (k : Int) 0) v with _ | _ <;> rcases hbw : hasB (touchesL p (k : Int) 1) v with _ | _
                · skip
                  have HBR := Lib.hid hbr
                  have HBW := Lib.hid hbw
                  clear hbr hbw
                  have u1 := Lib.hid (show cusN p (k + 1) v = cusN p k v + 0 by rw [cusN_succ]; unfold useT; rw [HBR.out, HBW.out]; rfl)
                  have u2' := Lib.hid (show cwrN p (k + 1) v = cwrN p k v + 0 by rw [cwrN_succ]; unfold wrT; rw [HBW.out]; rfl)
                  refine (has_any (touchesL p (k : Int) 0) v (A3 0) (c3 0) w8 (hT8.out 0 (by omega)) (HCL.out 0 (by omega))).mono ?_
                  rintro e w' ⟨rfl, rfl⟩
                  rw [HBR.out]
                  go_wp2_with (go_at_call 8; refine (has_any (touchesL p (k : Int) 1) v (A3 1) (c3 1) w8 (hT8.out 1 (by omega)) (HCL.out 1 (by omega))).mono ?_; rintro e w' ⟨rfl, rfl⟩; rw [HBW.out])
                  go_roundw
                  case rel => exact ⟨k + 1, by go_num, by omega, by rw [u1.out]; rfl, by rw [u2'.out]; rfl, hB8.out⟩
                  case measure => simp [intOf]; omega
                · skip
                  have HBR := Lib.hid hbr
                  have HBW := Lib.hid hbw
                  clear hbr hbw
                  have u1 := Lib.hid (show cusN p (k + 1) v = cusN p k v + 1 by rw [cusN_succ]; unfold useT; rw [HBR.out, HBW.out]; rfl)
                  have u2' := Lib.hid (show cwrN p (k + 1) v = cwrN p k v + 1 by rw [cwrN_succ]; unfold wrT; rw [HBW.out]; rfl)
                  refine (has_any (touchesL p (k : Int) 0) v (A3 0) (c3 0) w8 (hT8.out 0 (by omega)) (HCL.out 0 (by omega))).mono ?_
                  rintro e w' ⟨rfl, rfl⟩
                  rw [HBR.out]
                  go_wp2_with (go_at_call 8; refine (has_any (touchesL p (k : Int) 1) v (A3 1) (c3 1) w8 (hT8.out 1 (by omega)) (HCL.out 1 (by omega))).mono ?_; rintro e w' ⟨rfl, rfl⟩; rw [HBW.out])
                  go_roundw
                  case rel => exact ⟨k + 1, by go_num, by omega, by rw [u1.out]; rfl, by rw [u2'.out]; rfl, hB8.out⟩
                  case measure => simp [intOf]; omega
                · skip
                  have HBR := Lib.hid hbr
                  have HBW := Lib.hid hbw
                  clear hbr hbw
                  have u1 := Lib.hid (show cusN p (k + 1) v = cusN p k v + 1 by rw [cusN_succ]; unfold useT; rw [HBR.out, HBW.out]; rfl)
                  have u2' := Lib.hid (show cwrN p (k + 1) v = cwrN p k v + 0 by rw [cwrN_succ]; unfold wrT; rw [HBW.out]; rfl)
                  refine (has_any (touchesL p (k : Int) 0) v (A3 0) (c3 0) w8 (hT8.out 0 (by omega)) (HCL.out 0 (by omega))).mono ?_
                  rintro e w' ⟨rfl, rfl⟩
                  rw [HBR.out]
                  go_wp2_with (go_at_call 8; refine (has_any (touchesL p (k : Int) 1) v (A3 1) (c3 1) w8 (hT8.out 1 (by omega)) (HCL.out 1 (by omega))).mono ?_; rintro e w' ⟨rfl, rfl⟩; rw [HBW.out])
                  go_roundw
                  case rel => exact ⟨k + 1, by go_num, by omega, by rw [u1.out]; rfl, by rw [u2'.out]; rfl, hB8.out⟩
                  case measure => simp [intOf]; omega
                · skip
                  have HBR := Lib.hid hbr
                  have HBW := Lib.hid hbw
                  clear hbr hbw
                  have u1 := Lib.hid (show cusN p (k + 1) v = cusN p k v + 1 by rw [cusN_succ]; unfold useT; rw [HBR.out, HBW.out]; rfl)
                  have u2' := Lib.hid (show cwrN p (k + 1) v = cwrN p k v + 1 by rw [cwrN_succ]; unfold wrT; rw [HBW.out]; rfl)
                  refine (has_any (touchesL p (k : Int) 0) v (A3 0) (c3 0) w8 (hT8.out 0 (by omega)) (HCL.out 0 (by omega))).mono ?_
                  rintro e w' ⟨rfl, rfl⟩
                  rw [HBR.out]
                  go_wp2_with (go_at_call 8; refine (has_any (touchesL p (k : Int) 1) v (A3 1) (c3 1) w8 (hT8.out 1 (by omega)) (HCL.out 1 (by omega))).mono ?_; rintro e w' ⟨rfl, rfl⟩; rw [HBW.out])
                  go_roundw
                  case rel => exact ⟨k + 1, by go_num, by omega, by rw [u1.out]; rfl, by rw [u2'.out]; rfl, hB8.out⟩
                  case measure => simp [intOf]; omega
              · obtain rfl : k = p.threads.length := by omega
                have hd : decide ((p.threads.length : Int) < (p.threads.length : Int)) = false := by simp
                have HHV := Lib.hid (alone_has HA.out hvl)
                have hal2 : Hid (aloneB p v = (decide (cusN p p.threads.length v ≤ 1) || decide (cwrN p p.threads.length v = 0))) := Lib.hid (by rw [cusN_link HC.out, cwrN_link HC.out]; rfl)
                have hR6 : Hid (RdL encM 1 wr wr.heap.size A2 (aloneL p)) := Lib.hid ((HR.out.below HB6.out).more HB6.out.size)
                generalize cusN p p.threads.length v = cu at *
                generalize cwrN p p.threads.length v = cw at *
                by_cases hcu : cu ≤ 1
                · have HAB := Lib.hid (show hasB (aloneL p) (v : Int) = true by rw [HHV.out, hal2.out]; simp [hcu])
                  have dcu : decide ((cu : Int) ≤ 1) = true := by simp; omega
                  clear hcu
                  go_wp2_with (go_at_call 8; refine (has_any (aloneL p) v A2 c2 wr hR6.out (by omega)).mono ?_; rintro e w' ⟨rfl, rfl⟩; rw [HAB.out])
                  go_roundw
                  case rel => exact ⟨v + 1, by go_num, by omega, HB6.out⟩
                  case measure => simp [intOf]; omega
                · by_cases hcw : cw = 0
                  · have HAB := Lib.hid (show hasB (aloneL p) (v : Int) = true by rw [HHV.out, hal2.out]; simp [hcw])
                    have dcu : decide ((cu : Int) ≤ 1) = false := by simp; omega
                    have dcw : ((cw : Int) == 0) = true := by simp [hcw]
                    clear hcu hcw
                    go_wp2_with (go_at_call 8; refine (has_any (aloneL p) v A2 c2 wr hR6.out (by omega)).mono ?_; rintro e w' ⟨rfl, rfl⟩; rw [HAB.out])
                    go_roundw
                    case rel => exact ⟨v + 1, by go_num, by omega, HB6.out⟩
                    case measure => simp [intOf]; omega
                  · have HAB := Lib.hid (show hasB (aloneL p) (v : Int) = false by rw [HHV.out, hal2.out]; simp [hcu, hcw])
                    have dcu : decide ((cu : Int) ≤ 1) = false := by simp; omega
                    have dcw : ((cw : Int) == 0) = false := by simp; omega
                    clear hcu hcw
                    go_wp2_with (go_at_call 8; refine (has_any (aloneL p) v A2 c2 wr hR6.out (by omega)).mono ?_; rintro e w' ⟨rfl, rfl⟩; rw [HAB.out])
                    go_roundw
                    case rel => exact ⟨v + 1, by go_num, by omega, HB6.out⟩
                    case measure => simp [intOf]; omega
          · obtain rfl : v = p.vars.length := by omega
            have hd2 : decide ((p.vars.length : Int) < (p.vars.length : Int)) = false := by simp
            go_wp2_with (go_at_call 6; refine (known_any wr ((HE.out.keep HB.out).keep HB5.out).env0).mono ?_; rintro e w9 ⟨rfl, hb9⟩; have HB9 := Lib.hid hb9; clear hb9)
            go_ret
            exact ⟨rfl, HB.out.trans ((HB5.out.trans (HB9.out.mono HB5.out.size)).mono HB.out.size)⟩
  · have HA : Hid (askedN p 0 = 4) := Lib.hid (asked_bad hc 0)
    have hal : Hid (aloneL p = []) := Lib.hid (by unfold aloneL; rw [if_neg (by rw [HA.out]; decide)])
    clear hc
    unfold Prg.val
    go_enter Tryz.func3, Tryz.ntmps3
    go_wp2_with first
      | (go_at_call 5; refine (alone_any p (w.alloc (.cells p.cells 27)) (HE.out.keep hb0.out)).mono ?_; rintro e w2 ⟨A2, c2, rfl, _, hb⟩; have HB := Lib.hid (hb0.out.trans (hb.mono (by simp))); clear hb; rw [HA.out, hal.out])
      | (go_at_call 6; refine (known_any w2 (HE.out.keep HB.out).env0).mono ?_; rintro e w9 ⟨rfl, hb9⟩; have HB9 := Lib.hid hb9; clear hb9)
      | fail
    go_ret
    exact ⟨rfl, HB.out.trans (HB9.out.mono HB.out.size)⟩
end Go.Proofs.YtgdnpmpnkbnjaaaGreatDoor
