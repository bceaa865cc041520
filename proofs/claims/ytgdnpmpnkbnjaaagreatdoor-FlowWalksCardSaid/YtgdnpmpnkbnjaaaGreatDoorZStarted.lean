/- Contract of flow.started: a set of the threads that may be started. Conditions: the program lies in memory, check.Check takes it. -/
import Derived.Test.YtgdnpmpnkbnjaaaGreatDoorZGood
import Derived.Test.YtgdnpmpnkbnjaaaGreatDoorZTail
import Derived.Deep.QuietTactic
import Derived.BigQuiet
import Derived.Deep.Cut
namespace Go.Proofs.YtgdnpmpnkbnjaaaGreatDoor
open Go.RowKit

/-- where started stands -/
structure StAt (w0 W : World) (B b : Nat) (A : Option Addr) (c : Nat) (ws : List Nat) (S gw ow cw : Nat) (wk : List Nat) : Prop where
  set : SetAt W B b A c ws S
  tl : Tl W B gw ow cw wk
  below : Below B w0 W
theorem Tl.apart {W : World} {base B b c S g off cap : Nat} {l : List Nat} {A : Option Addr} {ws : List Nat} (ht : Tl W base g off cap l) (h : SetAt W B b A c ws S) : ¬ setBlks b A g := by
  obtain ⟨cur, hb, _⟩ := ht.blk
  rintro (e | e)
  · subst e
    exact Blk.ne_ hb h.box (by decide) rfl
  · exact own_blk_ne h.row hb (by decide) (by rw [ownBlock_sl]; exact e)
section
variable {w0 W W' : World} {B b c S gw ow cw : Nat} {A : Option Addr} {ws wk : List Nat}
theorem StAt.lower (h : StAt w0 W B b A c ws S gw ow cw wk) (hb : Below W.heap.size W W') : StAt w0 W' B b A c ws S gw ow cw wk :=
  ⟨h.set.below hb, h.tl.below hb, h.below.trans (hb.mono (by have := h.set.hb; have := h.set.box.lt; omega))⟩
/-- the row that is gone through shares no block with the list -/
structure RowAt (W : World) (base : Nat) (Ao : Option Addr) (co : Nat) (l : List Nat) (gw : Nat) : Prop where
  row : W.ownsRow base 3 1 (.slice Ao l.length co) l.length (l.map encN1)
  ne : Ao.map (·.block) ≠ some gw
theorem StAt.putOn {S' base co : Nat} {Ao : Option Addr} {l : List Nat} (h : StAt w0 W B b A c ws S gw ow cw wk) (hB : B ≤ w0.heap.size) (ho : RowAt W base Ao co l gw) (hp : SetPost B b A S' W W') : ∃ A' c' ws', StAt w0 W' B b A' c' ws' S' gw ow cw wk ∧ RowAt W' base Ao co l gw := by
  obtain ⟨A', c', ws', h1, h2, h3⟩ := hp
  exact ⟨A', c', ws', ⟨h1, h.tl.foot h2 (h.tl.apart h.set), foot_base h.set h.below hB h2⟩, own_foot ho.row h2 (fun k hk hP => h.set.apart ho.row (by decide) (by decide) k hk hP), ho.ne⟩
theorem StAt.push {base co g' o' c' k : Nat} {Ao : Option Addr} {l : List Nat} (h : StAt w0 W B b A c ws S gw ow cw wk) (hB : B ≤ w0.heap.size) (ho : RowAt W base Ao co l gw) (ht : Tl W' B g' o' c' (wk ++ [k])) (hg : W.grownBy W' (some gw)) (hat : g' = gw ∨ W.heap.size ≤ g') : StAt w0 W' B b A c ws S g' o' c' (wk ++ [k]) ∧ RowAt W' base Ao co l g' := by
  have hf := Foot.of_grown hg
  refine ⟨⟨h.set.foot hf fun i hi e => ?_, ht, h.below.trans (Foot.below (hf.mono fun i _ hi => ?_) (by have := h.below.size; omega))⟩, own_foot ho.row hf fun i hi e => ?_, fun e => ?_⟩
  · obtain rfl := Option.some.inj e
    exact h.tl.apart h.set hi
  · obtain rfl := Option.some.inj hi
    exact h.tl.ge
  · rw [ownBlock_sl] at hi
    exact ho.ne (hi.trans e.symm)
  · rcases hat with rfl | hat
    · exact ho.ne e
    · have := (ho.row.lt g' (by rw [ownBlock_sl]; exact e)).2
      omega
end
theorem new_one' {n : Nat} (w : World) (hn : w.heap.size = n) : Calls Tryz.prog 27 #[.slice (some ⟨n, 0, none⟩) 1 1] (w.alloc (.cells #[.int .i64 0] 3)) fun e w' => ∃ A' c' ws', e = .returned (.tuple #[.pointer (some ⟨n + 1, 0, none⟩), .int .i64 0]) ∧ SetAt w' n (n + 1) A' c' ws' (maskL [0]) ∧ Below n w w' := by
  subst hn
  exact new_one w
def Prg.cells (p : Prg) : Array Value := #[.slice p.Av p.vars.length p.cv, .slice p.Ao p.vols.length p.co, .slice p.Al p.locks.length p.cl, .slice p.Ab p.bars.length p.cb, .slice p.At p.threads.length p.ct]
set_option maxRecDepth 100000 in
set_option maxHeartbeats 2000000 in
theorem started_set (p : Prg) (w : World) (hin : p.In w w.heap.size) (hg : Good p) (hT : Tab w) (hw : 0 < w.heap.size) :
    Calls Tryz.prog 13 #[p.val] w fun e w' => ∃ b A' c' ws, e = .returned (.pointer (some ⟨b, 0, none⟩)) ∧ SetAt w' w.heap.size b A' c' ws p.startM ∧ Below w.heap.size w w' := by
  have HI := Lib.hid hin; clear hin
  have HG := Lib.hid hg; clear hg
  have HT := Lib.hid hT; clear hT
  have HW := Lib.hid hw; clear hw
  obtain ⟨N, hN⟩ : ∃ N, N = p.threads.length := ⟨_, rfl⟩
  have HN := Lib.hid hN; clear hN
  have hthr := HG.out.thr2
  unfold Prg.val
  go_enter Tryz.func13, Tryz.ntmps13
  go_wp2_with (go_at_call 27; refine (new_one' (n := w.heap.size + 1) (w.alloc _) (by simp)).mono ?_; rintro e w1 ⟨A1, c1, ws1, rfl, hst, hbl⟩; have HST := Lib.hid hst; have HBL := Lib.hid hbl; clear hst hbl)
  have hb0 : Hid (Below w.heap.size w (w.alloc (.cells p.cells 27))) := Lib.hid (by go_grown)
  have hbx : Hid (Blk (w.alloc (.cells p.cells 27)) w.heap.size 27 p.cells) := Lib.hid (Blk.new w _ _)
  have hs0 : Hid ((w.alloc (.cells p.cells 27)).heap.size = w.heap.size + 1) := Lib.hid (by simp)
  change Hid (Below (w.heap.size + 1) (w.alloc (.cells p.cells 27)) w1) at HBL
  generalize w.alloc (.cells p.cells 27) = W0 at *
  have hB1 : Hid (w.heap.size + 1 ≤ w1.heap.size) := Lib.hid (by have := HBL.out.size; have := hs0.out; omega)
  have hC0 : Hid (StAt W0 (w1.alloc (.cells #[.int .i64 0] 3)) (w.heap.size + 1) (w.heap.size + 1 + 1) A1 c1 ws1 (maskL [0]) w1.heap.size 0 1 [0]) := Lib.hid ⟨HST.out.below (Below.alloc (Below.refl _ _) (Nat.le_refl _) _), Tl.of_own (own_one w1 (w.heap.size + 1) w1.heap.size 0 _ hB1.out rfl rfl), HBL.out.alloc hB1.out _⟩
  go_loopw [5] (fun v wr => ∃ (A1 : Option Addr) (c1 : Nat) (ws1 : List Nat) (S gw ow cw : Nat) (wk : List Nat), v = .slice (some ⟨gw, ow, none⟩) wk.length cw ∧ StAt W0 wr (w.heap.size + 1) (w.heap.size + 1 + 1) A1 c1 ws1 S gw ow cw wk ∧ WLInv p.nxtT S wk ∧ wk.length ≤ cardN S) (fun v wr => todo N (readSet wr (w.heap.size + 1 + 1)) (lenOf v))
  case atStart => exact ⟨A1, c1, ws1, _, _, _, _, [0], rfl, hC0.out, WLInv.start, card_first⟩
  case round =>
    obtain ⟨A2, c2, ws2, S, gw, ow, cw, wk, rfl, hC, hI, hcd⟩ := hrel
    have HC := Lib.hid hC
    have HII := Lib.hid hI
    have HCD := Lib.hid hcd
    have hcl := card_le S
    have hwl : wk.length ≤ 1048576 := by omega
    have hbw : Hid (Below w.heap.size w wr) := Lib.hid (hb0.out.trans (hC.below.mono (by omega)))
    have hbx2 := hbx.out.below hC.below (by omega)
    have d4 : wr.cell? ⟨w.heap.size, 4, none⟩ = some (.slice p.At p.threads.length p.ct) := hbx2.cell 4
    have hlx := hbx2.lt
    clear hC hI hC0 hcd hcl hbx2
    rcases wk with _ | ⟨i, rk⟩
    · have hd : decide ((0 : Int) < (([] : List Nat).length : Int)) = false := by simp
      go_wp2_with fail
      go_ret
      have he := start_mask HG.out HII.out.done
      rw [← he]
      exact ⟨_, A2, c2, ws2, rfl, HC.out.set.base_le (by omega), hbw.out⟩
    · have hmid := HII.out.pop (i := i) (wk' := rk) (fun k => by simp)
      have hil : i < p.threads.length := nxtT_clo HG.out (HII.out.sub i hmid.here)
      obtain ⟨t, ht⟩ := get_some hil
      obtain ⟨g, off, hAg, hgl, _, t1, _⟩ := (HI.out.threads.below hbw.out).thr ht
      have HAG := Lib.hid hAg
      rw [hAg] at d4
      clear hAg
      have hcw := HC.out.tl.cell (j := 0) (x := i) rfl
      rw [Nat.add_zero] at hcw
      have hgw := HC.out.tl.lt
      have HM0 := Lib.hid hmid
      have HTT := Lib.hid ht
      have hlen : rk.length + 1 ≤ cw := HC.out.tl.le
      simp only [List.length_cons] at hwl ⊢
      clear hmid ht
      have hgl2 : g < wr.heap.size := by have := hbw.out.size; omega
      have hil2 : (i : Int) < (p.threads.length : Int) := by omega
      go_wp2_with fail
      go_quiet (fail)
      have hD : Hid (StAt W0 (World.drewN wr nq) (w.heap.size + 1) (w.heap.size + 1 + 1) A2 c2 ws2 S gw ow cw (i :: rk)) := Lib.hid (HC.out.lower (below_drewN (Below.refl _ _) _))
      have hDw : Hid (Below w.heap.size w (World.drewN wr nq)) := Lib.hid (below_drewN hbw.out _)
      have HSm := Lib.hid HC.out.set.read
      have HSt := Lib.hid HII.out
      clear d4 hgl hgl2 t1 hcw hgw hlx
      generalize World.drewN wr nq = wq at *
      have HLE := Lib.hid hlen
      have hgB : w.heap.size + 1 ≤ gw := hD.out.tl.ge
      by_cases hc1 : cw = 1
      case' pos =>
        subst hc1
        go_upto_region 6 with (fail)
        generalize hsv : Value.slice (some ⟨gw, ow, none⟩) 0 0 = sv
        have hE : Hid (∃ ow2 cw2, sv = .slice (some ⟨gw, ow2, none⟩) rk.length cw2 ∧ Tl wq (w.heap.size + 1) gw ow2 cw2 rk) := Lib.hid ⟨ow, 0, by rw [← hsv, show rk.length = 0 by have := HLE.out; omega], hD.out.tl.rest.2 rfl⟩
        clear hsv
      case' neg =>
        go_upto_region 6 with (fail)
        generalize hsv : Value.slice (some ⟨gw, ow + 1, none⟩) rk.length (cw - 1) = sv
        have hE : Hid (∃ ow2 cw2, sv = .slice (some ⟨gw, ow2, none⟩) rk.length cw2 ∧ Tl wq (w.heap.size + 1) gw ow2 cw2 rk) := Lib.hid ⟨ow + 1, cw - 1, hsv.symm, hD.out.tl.rest.1⟩
        clear hsv hc1
      all_goals
        obtain ⟨ow2, cw2, rfl, hT2⟩ := hE.out
        have HT2 := Lib.hid hT2
        clear hT2 hE
        have hthi := Lib.hid ((HI.out.thr t (get_mem HTT.out)).below hDw.out)
        have hok := Lib.hid (HG.out.code t (get_mem HTT.out))
        have hws := Lib.hid (Nat.lt_of_lt_of_le HW.out hDw.out.size)
        go_wp2_with first
          | (go_at_call 29; refine (come_set wq hthi.out.code hDw.out.size hok.out).mono ?_; rintro e w3 ⟨b3, A3, c3, ws3, rfl, hs3, hb3⟩; have HS3 := Lib.hid hs3; have HB3 := Lib.hid hb3; clear hs3 hb3)
          | (go_at_call 28; refine (named_row 17 w3 (hthi.out.code.below (HB3.out.mono hDw.out.size)) (Nat.le_trans hDw.out.size HB3.out.size) hok.out.le HS3.out (fun j x hx ho => by have := HG.out.fork (get_mem HTT.out) hx ho; omega) ((HT.out.keep hDw.out HW.out).keep HB3.out hws.out) (Nat.lt_of_lt_of_le hws.out HB3.out.size)).mono ?_; rintro e w4 ⟨v, rfl, ho, hb4⟩; obtain ⟨Ao, co, rfl⟩ := own_form ho; have HO := Lib.hid ho; have HB4 := Lib.hid hb4; clear ho hb4)
          | fail
        have hLN : Hid (p.nxtT i = listM (namedM t.code (comeM t.code) 17)) := Lib.hid (nxtT_get HTT.out)
        generalize listM (namedM t.code (comeM t.code) 17) = L at *
        have hLl : L.length ≤ 65535 := by rw [← hLN.out]; exact nxtT_len HG.out i
        have hC4 : Hid (StAt W0 w4 (w.heap.size + 1) (w.heap.size + 1 + 1) A2 c2 ws2 S gw ow2 cw2 rk) := Lib.hid ((StAt.lower ⟨hD.out.set, HT2.out, hD.out.below⟩ HB3.out).lower HB4.out)
        have hR4 : Hid (RowAt w4 wq.heap.size Ao co L gw) := Lib.hid ⟨own_base HO.out HB3.out.size, fun e => by
          have h1 := (HO.out.lt gw (by rw [ownBlock_sl]; exact e)).1
          have h2 := HT2.out.lt
          have h3 := HB3.out.size
          omega⟩
        have hcd2 : Hid (rk.length + 1 ≤ cardN S) := Lib.hid HCD.out
        go_loopw [5, 33] (fun v jv wr => ∃ (j : Nat) (A3 : Option Addr) (c3 : Nat) (ws3 : List Nat) (S3 gw3 ow3 cw3 : Nat) (wk3 : List Nat), v = .slice (some ⟨gw3, ow3, none⟩) wk3.length cw3 ∧ jv = .int .i64 j ∧ j ≤ L.length ∧ StAt W0 wr (w.heap.size + 1) (w.heap.size + 1 + 1) A3 c3 ws3 S3 gw3 ow3 cw3 wk3 ∧ RowAt wr wq.heap.size Ao co L gw3 ∧ WLMid p.nxtT S3 wk3 i j ∧ wk3.length ≤ cardN S3 ∧ todo N S3 wk3.length < todo N S (rk.length + 1)) (fun _ jv _ => L.length - (intOf jv).toNat)
        case atStart => exact ⟨0, A2, c2, ws2, S, gw, ow2, cw2, rk, rfl, rfl, by omega, hC4.out, hR4.out, HM0.out, by have := hcd2.out; omega, by unfold todo; omega⟩
        case round =>
          obtain ⟨j, A3, c3, ws3, S3, gw3, ow3, cw3, wk3, rfl, rfl, hj, hC3, hO3, hM3, hcd3, htd3⟩ := hrel
          have HC3 := Lib.hid hC3
          have HO3 := Lib.hid hO3
          have HM3 := Lib.hid hM3
          have HCD3 := Lib.hid hcd3
          have HTD3 := Lib.hid htd3
          have hcl := card_le S3
          have hwl3 : wk3.length ≤ 1048576 := by omega
          clear hC3 hO3 hM3 hcd3 htd3 hcl
          by_cases hlt : j < L.length
          · obtain ⟨k, hk⟩ := get_some hlt
            obtain ⟨go, rfl, hgol, hcg⟩ := own_num HO3.out.row rfl hk
            have hkl : k < p.threads.length := nxtT_lt HG.out (t := i) (by rw [hLN.out]; exact get_mem' hk)
            have hk20 : k < 1048576 := by omega
            have HK : Hid ((p.nxtT i)[j]? = some k) := Lib.hid (by rw [hLN.out]; exact hk)
            clear hk
            have hj2 : (j : Int) < (L.length : Int) := by omega
            rcases hbit : S3.testBit k with _ | _
            · have HBIT := Lib.hid hbit
              clear hbit
              go_wp2_with first
                | (go_at_call 23; refine (has_set k _ HC3.out.set hk20).mono ?_; rintro e w' ⟨rfl, rfl⟩; rw [HBIT.out])
                | (go_at_call 30; refine (put_set k wr HC3.out.set hk20).mono ?_; rintro e w5 ⟨rfl, hp⟩; obtain ⟨A4, c4, ws4, hC4, hO4⟩ := HC3.out.putOn (Nat.le_of_eq hs0.out.symm) HO3.out hp; have HC4 := Lib.hid hC4; have HO4 := Lib.hid hO4; have hbw : w.heap.size + 1 ≤ w5.heap.size := Nat.le_trans (Nat.le_of_eq hs0.out.symm) hC4.below.size; clear hC4 hO4 hp)
                | (at_builtin; go_must (refine wpList_append_tail rfl (.tmp 44) (.tmp 46) rfl w5 (w.heap.size + 1) gw3 ow3 wk3.length cw3 _ k wk3 (by rfl) (by rfl) (by rfl) HC4.out.tl rfl (by omega) hbw ?_); intro g1 o1 k1 w6 ho hg hat; have HC5 := Lib.hid (HC4.out.push (Nat.le_of_eq hs0.out.symm) HO4.out ho hg hat); clear ho hg hat)
                | fail
              have hcp := card_put HBIT.out hk20
              have hM5 := HM3.out.put HK.out
              have hlt5 : (S3 ||| 2 ^ k) < 2 ^ N := lt_of_bits fun x hx => by rw [HN.out]; exact nxtT_clo HG.out (hM5.sub x hx)
              have HTP := Lib.hid (todo_put (n := wk3.length) HBIT.out hlt5)
              have HM5 := Lib.hid hM5
              have HCP := Lib.hid hcp
              clear hM5 hlt5 hcp
              go_roundw
              case rel => exact ⟨j + 1, A4, c4, ws4, _, g1, o1, k1, wk3 ++ [k], by simp, by go_num, by omega, HC5.out.1, HC5.out.2, HM5.out, by rw [HCP.out]; simp only [List.length_append, List.length_cons, List.length_nil]; have := HCD3.out; omega, by simp only [List.length_append, List.length_cons, List.length_nil]; exact Nat.lt_trans HTP.out HTD3.out⟩
              case measure => simp [intOf]; omega
            · have HBIT := Lib.hid hbit
              clear hbit
              go_wp2_with (go_at_call 23; refine (has_set k _ HC3.out.set hk20).mono ?_; rintro e w' ⟨rfl, rfl⟩; rw [HBIT.out])
              go_roundw
              case rel => exact ⟨j + 1, A3, c3, ws3, S3, gw3, ow3, cw3, wk3, rfl, by go_num, by omega, HC3.out, HO3.out, HM3.out.skip HK.out HBIT.out, HCD3.out, HTD3.out⟩
              case measure => simp [intOf]; omega
          · obtain rfl : j = L.length := by omega
            have hd : decide ((L.length : Int) < (L.length : Int)) = false := by simp
            go_wp2_with fail
            go_roundw
            case rel => exact ⟨A3, c3, ws3, S3, gw3, ow3, cw3, wk3, rfl, HC3.out, HM3.out.fin (by rw [hLN.out]; exact Nat.le_refl _), HCD3.out⟩
            case measure =>
              rw [HC3.out.set.read, HSm.out]
              exact HTD3.out
end Go.Proofs.YtgdnpmpnkbnjaaaGreatDoor
