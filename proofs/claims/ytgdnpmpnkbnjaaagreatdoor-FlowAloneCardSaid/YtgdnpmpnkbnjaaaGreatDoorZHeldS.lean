/- Contract of flow.held with the meet of flow.Surely. Conditions: those of asked. -/
import Derived.Test.YtgdnpmpnkbnjaaaGreatDoorZK
namespace Go.Proofs.YtgdnpmpnkbnjaaaGreatDoor
open Go.RowKit

set_option maxRecDepth 100000 in
set_option maxHeartbeats 4000000 in
theorem held_surely {M rk : Nat → Nat → Nat} (hM : Meet M rk) (hf : MeetFn 38 M) (p : Prg) (th : Int) (w : World) (hE : Env p w) :
    Calls Tryz.prog 37 #[p.val, .int .i64 th, .func (.func 38) #[] #[]] w (HeldPost M p th w) := by
  have HE := Lib.hid hE; clear hE
  have HM := Lib.hid hM; clear hM
  have HF := Lib.hid hf; clear hf
  have hb0 : Hid (Below w.heap.size w (w.alloc (.cells p.cells 27))) := Lib.hid (by go_grown)
  have hbx : Hid (Blk (w.alloc (.cells p.cells 27)) w.heap.size 27 p.cells) := Lib.hid (Blk.new w _ _)
  have hle := HE.out.fits.threads
  rcases asked_cases p th with ha | ha | ha
  · obtain ⟨hck, k, rfl, hk⟩ := asked_ok ha
    have HG := Lib.hid (good_of hck)
    obtain ⟨t, ht⟩ := get_some hk
    have HT := Lib.hid ht
    have HA := Lib.hid ha
    have hk2 : (k : Int) < (p.threads.length : Int) := by omega
    have HCA := Lib.hid (codeAt_get ht)
    have hcl := (HG.out.code t (get_mem ht)).le
    have hcp := (HG.out.code t (get_mem ht)).pos
    obtain ⟨N, hN⟩ : ∃ N, N = p.locks.length := ⟨_, rfl⟩
    have HN := Lib.hid hN
    clear ha ht hck hN
    unfold Prg.val
    go_enter Tryz.func37, Tryz.ntmps37
    go_wp2_with fail
    refine wp_scope_jumps3 0 (HeldJ M 38 p k t N w) (fun a W => rkS rk N ((List.range t.code.length).map (rdP W (blkOf (a.tmps.getD 10 undef))))) rfl ?pass ?first
    case first =>
      intro hrest
      have HREST := Lib.hid hrest
      clear hrest
      obtain ⟨i0, hi0, iz0, iz1, iz2⟩ := info_parts info_ptr
      go_wp2_with first
        | (go_at_call 12; refine (asked_any p k (w.alloc (.cells p.cells 27)) (HE.out.keep hb0.out)).mono ?_; rintro e w1 ⟨rfl, hb⟩; have HB := Lib.hid (hb0.out.trans (hb.mono (by simp))); have HBX := Lib.hid (hbx.out.below hb (by simp)); have HBW := Lib.hid hb; clear hb; rw [HA.out]; have d4 : w1.cell? ⟨w.heap.size, 4, none⟩ = some (.slice p.At p.threads.length p.ct) := HBX.out.cell 4; have hlx := HBX.out.lt; obtain ⟨g, off, hAg, hgl, _, t1, _⟩ := ((HE.out.keep HB.out).in_.threads).thr HT.out; have HAG := Lib.hid hAg; rw [hAg] at d4; clear hAg)
        | (refine wpList_make_full w1 rfl (.tmp 33) (.tmp 33) 111 rfl w1.heap.size 61 i0 _ 1 Tryz.underlying111 hi0 iz0 iz1 .i64 .i64 _ _ t.code.length rfl rfl rfl rfl (by rw [iz2]; omega) (by simp only [maxLen]; omega) (Nat.le_refl _) ?_; intro w2 hown hgr; have HH0 := Lib.hid (held_made hown hgr); clear hown hgr)
        | (go_at_call 27; refine (new_none w2).mono ?_; rintro e w3 ⟨A3, c3, ws3, rfl, hs3, hb3⟩; have HH1 := Lib.hid (HH0.out.store (Nat.le_refl _) 0 hb3 hs3); obtain ⟨hg3, hc3, hf3⟩ := (HH0.out.lower (Nat.le_refl _) hb3).get (k := 0) (o := none) (by rw [List.getElem?_replicate, if_pos hcp]); simp only [ptrO] at hc3; clear hs3 hb3)
        | fail
      go_step3
      rename_i Kx hKx
      refine hKx _ _ (HREST.out _ _ ?_)
      refine HeldJ.of w1 _ (by kernel_rfl) HB.out HH1.out ?_ (by simp)
      rw [stO_set]
      have e : stO (List.replicate t.code.length none) = List.replicate t.code.length none := by simp [stO]
      rw [e]
      exact HInv.first HM.out hcp
    case pass =>
      rintro a W ⟨w1, D, u, rfl, hB, hH, hI, hl⟩
      have hcode : Hid (RdL encI 5 w1 w1.heap.size t.Ac t.code) := Lib.hid ((HE.out.keep hB).in_.thr t (get_mem HT.out)).code
      have hEw : Hid (Env p w1) := Lib.hid (HE.out.keep hB)
      have HBw := Lib.hid hB
      generalize hmu : rkS rk N ((List.range t.code.length).map (rdP W (blkOf ((heldFr 38 p k t w w1.heap.size u).tmps.getD 10 undef)))) = m0
      have hm0 : Hid (rkS rk N (stO D) = m0) := Lib.hid (by rw [← hmu, ← hH.read hl.symm]; rfl)
      have HI := Lib.hid hI
      have hH0 : Hid (HeldAt w1 W w1.heap.size w1.heap.size t.code.length none D) := Lib.hid hH
      have hl0 := Lib.hid hl
      clear hmu hB hH hI hl
      have hlk := HG.out.locks
      unfold heldFr
      go_wp2_with fail
      go_loopw [43] (fun iv wr => ∃ (i : Nat) (D1 : List (Option SetD)), iv = .int .i64 i ∧ i ≤ t.code.length ∧ HeldAt w1 wr w1.heap.size w1.heap.size t.code.length none D1 ∧ stO D1 = stO D ∧ HFix M t.code (stO D) i ∧ D1.length = t.code.length) (fun iv _ => t.code.length - (intOf iv).toNat)
      case atStart => exact ⟨0, D, rfl, by omega, hH0.out, rfl, fun j _ _ _ hj => absurd hj (by omega), hl0.out⟩
      case round =>
        obtain ⟨i, D1, rfl, hi, hH, hst, hfx, hl⟩ := hrel
        have HH := Lib.hid hH
        have HST := Lib.hid hst
        have HFX := Lib.hid hfx
        have HLL := Lib.hid hl
        clear hH hst hfx hl
        by_cases hlt : i < t.code.length
        · have hi2 : (i : Int) < (t.code.length : Int) := by omega
          obtain ⟨o, ho⟩ := get_some (l := D1) (k := i) (by rw [HLL.out]; exact hlt)
          obtain ⟨hgl, hci, hfi⟩ := HH.out.get ho
          have HO := Lib.hid ho
          clear ho
          rcases o with _ | d
          · simp only [ptrO] at hci
            go_wp2_with fail
            go_roundw
            case rel => exact ⟨i + 1, D1, by go_num, by omega, HH.out, HST.out, HFX.out.skip (by rw [← HST.out, stO_get HO.out]; rfl), HLL.out⟩
            case measure => simp [intOf]; omega
          · simp only [ptrO] at hci
            obtain ⟨x, hx⟩ := get_some hlt
            have hwr : Hid (Below w1.heap.size w1 wr) := Lib.hid HH.out.below
            have hds : Hid (SetAt wr w1.heap.size d.b d.A d.c d.ws d.S) := Lib.hid (HH.out.at_ HO.out)
            have HX := Lib.hid hx
            clear hx
            go_upto_region 12 with (go_at_call 53; refine (copy_set wr hds.out).mono ?_; rintro e w2 ⟨b2, A2, c2, rfl, hs2, hb2⟩; have HH2 := Lib.hid (HH.out.carry (Nat.le_refl _) hb2 hs2); clear hs2 hb2)
            obtain ⟨gx, ox, hAx, hgx, x0, x1, x2, x3, x4⟩ := (hcode.out.below (HH2.out.below)).ins HX.out
            have hgx2 : gx < w2.heap.size := by have := HH2.out.below.size; omega
            have HAX := Lib.hid hAx
            rw [hAx]
            clear hAx
            have hxw : ∀ W2, W2 = w2.alloc (.cells #[.int .i64 x.op, .int .i64 x.a, .int .i64 x.b, .int .i64 x.c, .int .i64 x.n] 53) → HeldAt w1 W2 w1.heap.size w1.heap.size t.code.length (some ⟨b2, A2, c2, d.ws, d.S⟩) D1 := fun W2 e => by
              subst e
              exact HH2.out.lower (Nat.le_refl _) (Below.alloc (Below.refl _ _) (Nat.le_refl _) _)
            have HXW := Lib.hid hxw
            clear hxw
            have hop : x.op = 15 ∨ (x.op ≠ 15 ∧ x.op = 16) ∨ (x.op ≠ 15 ∧ x.op ≠ 16) := by omega
            rcases hop with h15 | ⟨h15, h16⟩ | ⟨h15, h16⟩
            case' inl =>
              have hnl := HG.out.lock (get_mem HT.out) HX.out (.inl h15)
              obtain ⟨n, hn⟩ : ∃ n : Nat, x.n = (n : Int) := ⟨x.n.toNat, by omega⟩
              have htr : Hid (trN x d.S = d.S ||| 2 ^ n) := Lib.hid (by unfold trN; rw [if_pos h15, hn]; rfl)
              have hn20 : n < 1048576 := by omega
              have d15 : (x.op == 15) = true := by simp [h15]
              have hHx := Lib.hid (HXW.out _ rfl)
              rw [hn] at x4 hHx
              clear h15 hn hnl
              go_upto_region 18 with (go_at_call 30; refine (put_set n _ hHx.out.at_s hn20).mono ?_; rintro e w4 ⟨rfl, hp⟩; have HP := Lib.hid (hHx.out.postS (Nat.le_refl _) hp); clear hp)
              have hS : Hid (∃ s' : SetD, s'.b = b2 ∧ s'.S = trN x d.S ∧ HeldAt w1 w4 w1.heap.size w1.heap.size t.code.length (some s') D1) := Lib.hid (by
                obtain ⟨A', c', ws', h⟩ := HP.out
                exact ⟨_, rfl, htr.out.symm, h⟩)
            case' inr.inl =>
              have hnl := HG.out.lock (get_mem HT.out) HX.out (.inr h16)
              obtain ⟨n, hn⟩ : ∃ n : Nat, x.n = (n : Int) := ⟨x.n.toNat, by omega⟩
              have htr : Hid (trN x d.S = delN d.S n) := Lib.hid (by unfold trN; rw [if_neg h15, if_pos h16, hn]; rfl)
              have hn20 : n < 1048576 := by omega
              have d15 : (x.op == 15) = false := by simp [h15]
              have d16 : (x.op == 16) = true := by simp [h16]
              have hHx := Lib.hid (HXW.out _ rfl)
              rw [hn] at x4 hHx
              clear h15 h16 hn hnl
              go_upto_region 18 with (go_at_call 54; refine (del_set n _ hHx.out.at_s hn20).mono ?_; rintro e w4 ⟨rfl, hp⟩; have HP := Lib.hid (hHx.out.postS (Nat.le_refl _) hp); clear hp)
              have hS : Hid (∃ s' : SetD, s'.b = b2 ∧ s'.S = trN x d.S ∧ HeldAt w1 w4 w1.heap.size w1.heap.size t.code.length (some s') D1) := Lib.hid (by
                obtain ⟨A', c', ws', h⟩ := HP.out
                exact ⟨_, rfl, htr.out.symm, h⟩)
            case' inr.inr =>
              have htr : Hid (trN x d.S = d.S) := Lib.hid (by unfold trN; rw [if_neg h15, if_neg h16])
              have d15 : (x.op == 15) = false := by simp [h15]
              have d16 : (x.op == 16) = false := by simp [h16]
              clear h15 h16
              go_upto_region 18 with (fail)
              have hHx := Lib.hid (HXW.out _ rfl)
              have hS : Hid (∃ s' : SetD, s'.b = b2 ∧ s'.S = trN x d.S ∧ HeldAt w1 (w2.alloc (.cells #[.int .i64 x.op, .int .i64 x.a, .int .i64 x.b, .int .i64 x.c, .int .i64 x.n] 53)) w1.heap.size w1.heap.size t.code.length (some s') D1) := Lib.hid ⟨⟨b2, A2, c2, d.ws, d.S⟩, rfl, htr.out.symm, hHx.out⟩
              generalize w2.alloc (.cells #[.int .i64 x.op, .int .i64 x.a, .int .i64 x.b, .int .i64 x.c, .int .i64 x.n] 53) = w4 at *
            all_goals
              obtain ⟨s, hsb, hsS, hH4⟩ := hS.out
              subst hsb
              have HS4 := Lib.hid hsS
              have HH4 := Lib.hid hH4
              clear hsS hH4 hS
              clear hgx2 hgx x0 x1 x2 x3 x4 hci hgl
              rw [← HAX.out]
              go_wp2_with first
                | (go_at_call 44; refine (on_row i w4 (hcode.out.below HH4.out.below) HH4.out.below.size (HG.out.code t (get_mem HT.out)) hlt).mono ?_; rintro e w5 ⟨v, rfl, ho, hb5⟩; obtain ⟨Ao, co, rfl⟩ := own_form ho; have HO5 := Lib.hid ho; have HB5 := Lib.hid hb5; clear ho hb5)
                | fail
              have hon2 := on_two (code := t.code) i
              have hP0 : Hid (Pass M rk t.code N i (trN x d.S) 0 (stO D) (stO D1) false) := Lib.hid ⟨by rw [HST.out]; exact HI.out, HInv.from_ HM.out HI.out (by rw [← HST.out]; exact stO_get HO.out) HX.out (fun h15 => by have := HG.out.lock (get_mem HT.out) HX.out (.inl h15); have := HN.out; omega), fun _ => ⟨HST.out, fun _ h => by simp at h⟩, fun h => by cases h⟩
              have hH5 := Lib.hid (HH4.out.lower (Nat.le_refl _) HB5.out)
              go_loopw [14, 78] (fun cv jv wq => ∃ (ch : Bool) (j : Nat) (D3 : List (Option SetD)), cv = .bool ch ∧ jv = .int .i64 j ∧ j ≤ (onN t.code i).length ∧ HeldAt w1 wq w1.heap.size w1.heap.size t.code.length (some s) D3 ∧ wq.ownsRow w4.heap.size 3 1 (.slice Ao (onN t.code i).length co) (onN t.code i).length ((onN t.code i).map encN1) ∧ Pass M rk t.code N i (trN x d.S) j (stO D) (stO D3) ch ∧ D3.length = t.code.length) (fun _ jv _ => (onN t.code i).length - (intOf jv).toNat)
              case atStart => exact ⟨false, 0, D1, rfl, rfl, by omega, hH5.out, HO5.out, hP0.out, HLL.out⟩
              case round =>
                obtain ⟨ch, j, D3, rfl, rfl, hj, hH, hor, hP, hl3⟩ := hrel
                have HH6 := Lib.hid hH
                have HR6 := Lib.hid hor
                have HP6 := Lib.hid hP
                have HL6 := Lib.hid hl3
                clear hH hor hP hl3
                by_cases hjl : j < (onN t.code i).length
                · obtain ⟨k', hk'⟩ := get_some hjl
                  obtain ⟨go, rfl, hgol, hcg⟩ := own_num HR6.out rfl hk'
                  have hkl := on_lt (HG.out.code t (get_mem HT.out)) (get_mem' hk')
                  have HK := Lib.hid hk'
                  clear hk'
                  have hj2 : (j : Int) < ((onN t.code i).length : Int) := by omega
                  have hkl2 : (k' : Int) < (t.code.length : Int) := by omega
                  obtain ⟨o3, ho3⟩ := get_some (l := D3) (k := k') (by rw [HL6.out]; exact hkl)
                  obtain ⟨hgl3, hc3, hf3⟩ := HH6.out.get ho3
                  have HO3 := Lib.hid ho3
                  clear ho3
                  rcases o3 with _ | d3
                  · simp only [ptrO] at hc3
                    go_wp2_with first
                      | (go_at_call 53; refine (copy_set wr HH6.out.at_s).mono ?_; rintro e w7 ⟨b7, A7, c7, rfl, hs7, hb7⟩; have HS7 := Lib.hid (HH6.out.store (Nat.le_refl _) k' hb7 hs7); have HF7 := Lib.hid hb7; obtain ⟨hgl7, hc7, hf7⟩ := (HH6.out.lower (Nat.le_refl _) hb7).get HO3.out; simp only [ptrO] at hc7; clear hs7 hb7)
                      | fail
                    have hP7 := Lib.hid (HP6.out.fresh HM.out HK.out (by rw [stO_get HO3.out]; rfl))
                    go_roundw
                    case rel => exact ⟨true, j + 1, _, rfl, by go_num, by omega, HS7.out, own_foot (own_foot HR6.out (Foot.of_below HF7.out) (fun q hq => by have := (HR6.out.lt q hq).2; omega)) (Foot.setCell (P := fun q => q = w1.heap.size) (Foot.refl _ _) (.inl rfl) _) (fun q hq e => own_own_ne HR6.out HH6.out.row (by decide) q hq (by subst e; rfl)), by rw [stO_set]; have h := hP7.out; rw [← HS4.out] at h ⊢; exact h, by rw [List.length_set]; exact HL6.out⟩
                    case measure => simp [intOf]; omega
                  · simp only [ptrO] at hc3
                    have hms : Hid (∀ ch', (M d3.S s.S = d3.S ∧ ch' = ch ∨ M d3.S s.S ≠ d3.S ∧ ch' = true) → Pass M rk t.code N i (trN x d.S) (j + 1) (stO D) ((stO D3).set k' (some (M d3.S s.S))) ch') := Lib.hid (by
                      intro ch' hch
                      have hg : (stO D3)[k']? = some (some d3.S) := stO_get HO3.out
                      rw [HS4.out] at hch ⊢
                      rcases hch with ⟨h1, rfl⟩ | ⟨h1, rfl⟩
                      · exact HP6.out.stay HK.out hg h1
                      · exact HP6.out.met HM.out HK.out hg h1)
                    have hml : Hid (∀ w7, SetPost w1.heap.size d3.b d3.A (M d3.S s.S) wr w7 → (∃ d', d'.S = M d3.S s.S ∧ HeldAt w1 w7 w1.heap.size w1.heap.size t.code.length (some s) (D3.set k' (some d'))) ∧ w7.ownsRow w4.heap.size 3 1 (.slice (some ⟨go, 0, none⟩) (onN t.code i).length co) (onN t.code i).length ((onN t.code i).map encN1)) := Lib.hid (fun w7 hp => ⟨HH6.out.postK (Nat.le_refl _) HO3.out hp, by
                      obtain ⟨_, _, _, _, hf2, _⟩ := hp
                      exact own_foot HR6.out hf2 (fun q hq hP => SetAt.apart (HH6.out.at_ HO3.out) HR6.out (by decide) (by decide) q hq hP)⟩)
                    by_cases hme : M d3.S s.S = d3.S
                    · have hdec : decide (M d3.S s.S ≠ d3.S) = false := by simp [hme]
                      have hmc : Hid (Pass M rk t.code N i (trN x d.S) (j + 1) (stO D) ((stO D3).set k' (some (M d3.S s.S))) ch) := Lib.hid (hms.out ch (.inl ⟨hme, rfl⟩))
                      clear hme
                      go_wp2_with (go_at_call 38; refine (HF.out wr (HH6.out.at_ HO3.out) HH6.out.at_s (HH6.out.apart_s HO3.out)).mono ?_; rintro e w7 ⟨rfl, hp⟩; have HP7 := Lib.hid (hml.out w7 hp); clear hp; rw [hdec])
                      obtain ⟨⟨d', hd', hH7⟩, hr7⟩ := HP7.out
                      go_roundw
                      case rel => exact ⟨ch, j + 1, D3.set k' (some d'), rfl, by go_num, by omega, hH7, hr7, by rw [stO_set, hd']; exact hmc.out, by rw [List.length_set]; exact HL6.out⟩
                      case measure => simp [intOf]; omega
                    · have hdec : decide (M d3.S s.S ≠ d3.S) = true := by simp [hme]
                      have hmc : Hid (Pass M rk t.code N i (trN x d.S) (j + 1) (stO D) ((stO D3).set k' (some (M d3.S s.S))) true) := Lib.hid (hms.out true (.inr ⟨hme, rfl⟩))
                      clear hme
                      go_wp2_with (go_at_call 38; refine (HF.out wr (HH6.out.at_ HO3.out) HH6.out.at_s (HH6.out.apart_s HO3.out)).mono ?_; rintro e w7 ⟨rfl, hp⟩; have HP7 := Lib.hid (hml.out w7 hp); clear hp; rw [hdec])
                      obtain ⟨⟨d', hd', hH7⟩, hr7⟩ := HP7.out
                      go_roundw
                      case rel => exact ⟨true, j + 1, D3.set k' (some d'), rfl, by go_num, by omega, hH7, hr7, by rw [stO_set, hd']; exact hmc.out, by rw [List.length_set]; exact HL6.out⟩
                      case measure => simp [intOf]; omega
                · obtain rfl : j = (onN t.code i).length := by omega
                  have hd : decide (((onN t.code i).length : Int) < ((onN t.code i).length : Int)) = false := by simp
                  rcases ch with _ | _
                  · go_wp2_with fail
                    go_roundw
                    case rel =>
                      have h1 := HP6.out.no rfl
                      exact ⟨i + 1, D3, by go_num, by omega, HH6.out.drop, h1.1, HFX.out.next (by rw [← HST.out]; exact stO_get HO.out) HX.out (fun q hq => by rw [← h1.1]; exact h1.2 q (by rw [List.take_of_length_le (Nat.le_refl _)]; exact hq)), HL6.out⟩
                    case measure => simp [intOf]; omega
                  · go_wp2_with fail
                    go_step3
                    have h1 := HP6.out.yes rfl
                    refine (show (0 = 0 ∧ HeldJ M 38 p k t N w _ wr ∧ rkS rk N ((List.range t.code.length).map (rdP wr (blkOf _))) < m0) from ⟨rfl, HeldJ.of w1 D3 (by kernel_rfl) HBw.out HH6.out.drop HP6.out.inv HL6.out, ?_⟩)
                    have h2 := HH6.out.read HL6.out.symm
                    show rkS rk N ((List.range t.code.length).map (rdP wr w1.heap.size)) < m0
                    rw [h2, ← hm0.out]
                    exact h1
        · obtain rfl : i = t.code.length := by omega
          have hd : decide ((t.code.length : Int) < (t.code.length : Int)) = false := by simp
          obtain ⟨i0, hi0, iz0, iz1, iz2⟩ := info_parts info_ints
          have hheld : Hid (Held M t.code (stO D)) := Lib.hid (HI.out.held HFX.out)
          have hlsl : Hid (((stO D).map lstO).length = t.code.length) := Lib.hid (by rw [List.length_map, HI.out.len])
          go_wp2_with (refine wpList_make_full wr rfl (.tmp 103) (.tmp 103) 41 rfl w1.heap.size 28 i0 _ 1 Tryz.underlying41 hi0 iz0 iz1 .i64 .i64 _ _ t.code.length rfl rfl rfl rfl (by rw [iz2]; omega) (by simp only [maxLen]; omega) (by exact HH.out.below.size) ?_; intro w8 hown hgr; have HB8 := Lib.hid (below_made hgr); have HL8 := Lib.hid (LB.made hown hlsl.out); clear hown hgr)
          have hH8 := Lib.hid (HH.out.lower (Nat.le_refl _) HB8.out)
          go_loopw [107] (fun iv wq => ∃ (i : Nat) (vs : List Value), iv = .int .i64 i ∧ i ≤ t.code.length ∧ HeldAt w1 wq w1.heap.size w1.heap.size t.code.length none D1 ∧ LB wq w1.heap.size wr.heap.size t.code.length i ((stO D).map lstO) vs) (fun iv _ => t.code.length - (intOf iv).toNat)
          case atStart => exact ⟨0, _, rfl, by omega, hH8.out, HL8.out⟩
          case round =>
            obtain ⟨i, vs, rfl, hi, hH, hL⟩ := hrel
            have HH9 := Lib.hid hH
            have HL9 := Lib.hid hL
            clear hH hL
            by_cases hlt : i < t.code.length
            · have hi2 : (i : Int) < (t.code.length : Int) := by omega
              obtain ⟨o, ho⟩ := get_some (l := D1) (k := i) (by rw [HLL.out]; exact hlt)
              obtain ⟨hgl, hci, hfi⟩ := HH9.out.get ho
              have hls : Hid (((stO D).map lstO)[i]? = some (lstO (o.map SetD.S))) := Lib.hid (by rw [List.getElem?_map, ← HST.out, stO_get ho]; rfl)
              have HO := Lib.hid ho
              clear ho
              rcases o with _ | d
              · simp only [ptrO] at hci
                go_wp2_with fail
                go_roundw
                case rel => exact ⟨i + 1, vs, by go_num, by omega, HH9.out, HL9.out.skip hlt hls.out⟩
                case measure => simp [intOf]; omega
              · simp only [ptrO] at hci
                have hds : Hid (SetAt wr w1.heap.size d.b d.A d.c d.ws d.S) := Lib.hid (HH9.out.at_ HO.out)
                have hE9 : Hid (Env p wr) := Lib.hid (hEw.out.keep HH9.out.below)
                go_wp2_with (go_at_call 36; refine (list_set wr hds.out hE9.out.tab hE9.out.pos).mono ?_; rintro e w10 ⟨v, rfl, ho, _, hb⟩; obtain ⟨A', c', rfl⟩ := own_form ho; have HO10 := Lib.hid ho; have HB10 := Lib.hid hb; have HL10 := Lib.hid (HL9.out.lower hb); obtain ⟨hgl10, hc10, hf10⟩ := HL10.out.get hlt; clear ho hb)
                go_roundw
                case rel => exact ⟨i + 1, _, by go_num, by omega, (HH9.out.lower (Nat.le_refl _) HB10.out).aside (by decide) HL10.out.row (Nat.le_refl _) (Nat.le_refl _) rfl, HL10.out.put hlt hls.out (own_base HO10.out HH9.out.below.size)⟩
                case measure => simp [intOf]; omega
            · obtain rfl : i = t.code.length := by omega
              go_wp2_with fail
              go_ret2
              have hl1 := HL9.out.doneN HBw.out.size
              exact ⟨_, t.code.length, (stO D).map lstO, by rw [hlsl.out, HA.out]; rfl, .inl ⟨HA.out, _, by rw [HCA.out]; exact hheld.out, rfl⟩, hl1, HBw.out.trans (HH9.out.below.mono HBw.out.size)⟩
  all_goals
    have HA := Lib.hid ha
    clear ha
    unfold Prg.val
    go_enter Tryz.func37, Tryz.ntmps37
    go_wp2_with fail
    refine wp_scope_straight ?_
    go_wp2_with (go_at_call 12; refine (asked_any p th (w.alloc (.cells p.cells 27)) (HE.out.keep hb0.out)).mono ?_; rintro e w1 ⟨rfl, hb⟩; have HB := Lib.hid (hb0.out.trans (hb.mono (by simp))); clear hb; rw [HA.out])
    rw [Exit.noGoto_ret]
    go_ret2
    exact ⟨none, 0, [], by rw [HA.out]; rfl, .inr ⟨by rw [HA.out]; decide, rfl⟩, fun j l hl => by simp at hl, HB.out⟩
end Go.Proofs.YtgdnpmpnkbnjaaaGreatDoor
