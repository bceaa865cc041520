/- Contract of abreastlaw13.FlowWalks: true. Conditions: those of asked; the turns are read. -/
import Derived.Test.YtgdnpmpnkbnjaaaGreatDoorZTold
import Derived.Test.YtgdnpmpnkbnjaaaGreatDoorZWalkD
import Derived.Test.YtgdnpmpnkbnjaaaGreatDoorZTouched
import Derived.Test.YtgdnpmpnkbnjaaaGreatDoorZKnown
import Derived.Deep.CutBlock
namespace Go.Proofs.YtgdnpmpnkbnjaaaGreatDoor
open Go.RowKit

noncomputable def toldA (p : Prg) (th : Int) (A : Nat → Option Addr) (c : Nat → Nat) (AT : Nat → Option Addr) (cT : Nat → Nat) (ls lp : List (List Nat)) : Array Value := #[.slice (A 0) (edgesL p th).length (c 0), .slice (A 1) (reachL p th).length (c 1), .slice (A 2) (startL p).length (c 2), .slice (A 3) (aloneL p).length (c 3), .slice (A 4) ls.length (c 4), .slice (A 5) lp.length (c 5), .slice (AT 0) (touchesL p th 0).length (cT 0), .slice (AT 1) (touchesL p th 1).length (cT 1), .slice (AT 2) (touchesL p th 2).length (cT 2), .slice (AT 3) (touchesL p th 3).length (cT 3), .slice (AT 4) (touchesL p th 4).length (cT 4), .slice (AT 5) (touchesL p th 5).length (cT 5), .slice (AT 6) (touchesL p th 6).length (cT 6), .slice (AT 7) (touchesL p th 7).length (cT 7), .slice (AT 8) (touchesL p th 8).length (cT 8), .int .i64 (askedN p th), .int .i64 (askedN p th), .int .i64 (askedN p th), .int .i64 (askedN p 0), .int .i64 (askedN p th), .int .i64 (askedN p th), .int .i64 (askedN p 0)]
theorem toldV_eq (p : Prg) (th : Int) (A : Nat → Option Addr) (c : Nat → Nat) (AT : Nat → Option Addr) (cT : Nat → Nat) (ls lp : List (List Nat)) : toldV p th A c AT cT ls lp = .agg (toldA p th A c AT cT ls lp) := rfl
theorem toldA_one (p : Prg) (th : Int) (A : Nat → Option Addr) (c : Nat → Nat) (AT : Nat → Option Addr) (cT : Nat → Nat) (ls lp : List (List Nat)) : (toldA p th A c AT cT ls lp).all (·.oneCell') = true := by
  simp [toldA, Value.oneCell']
theorem toldA_size (p : Prg) (th : Int) (A : Nat → Option Addr) (c : Nat → Nat) (AT : Nat → Option Addr) (cT : Nat → Nat) (ls lp : List (List Nat)) : (Tryz.prog.info? 44).map (·.size) = some (toldA p th A c AT cT ls lp).size := size_told

theorem ToldAt.keep {p : Prg} {th : Int} {W W' : World} {A AT : Nat → Option Addr} {ls lp : List (List Nat)} (h : ToldAt p th W A AT ls lp) (hb : Below W.heap.size W W') : ToldAt p th W' A AT ls lp := by
  have hl : ∀ {A : Option Addr} {ls : List (List Nat)}, LL W W.heap.size A ls → LL W' W'.heap.size A ls := fun h i l hl => by
    obtain ⟨g, e, h1, A', c', h2, h3⟩ := h i l hl
    exact ⟨g, e, Nat.lt_of_lt_of_le h1 hb.size, A', c', (hb.cell h1).trans h2, (h3.below hb).more hb.size⟩
  exact ⟨(h.edges.below hb).more hb.size, (h.reach.below hb).more hb.size, (h.started.below hb).more hb.size, hl h.surely, hl h.perhaps, fun k hk => ((h.touch k hk).below hb).more hb.size, h.hs, h.hp⟩
/-- what a round finds -/
structure WS (w3 wr : World) (code : List Ins) (s1 s2 : List (Option Nat)) (a : Nat) (hs : List Bool) (h L : Nat) : Prop where
  inv : WInv code s1 s2 a hs h
  len : hs.length = L
  row : wr.ownsRow w3.heap.size 4 1 (.slice (some ⟨w3.heap.size, 0, none⟩) L L) L (hs.map Value.bool)
  below : Below w3.heap.size w3 wr
/-- behind the switch: the instruction that follows, the turns that are used, the locks that are held -/
def SW (w3 wx : World) (code : List Ins) (s1 s2 : List (Option Nat)) (L N a h : Nat) (x : Ins) (uv nv : Value) : Prop :=
  ∃ (q wy : Nat) (hs' : List Bool), uv = .int .i64 wy ∧ nv = .int .i64 q ∧ q ∈ onN code a ∧ wy ≤ N ∧ WS w3 wx code s1 s2 q hs' (trN x h) L
theorem RdL.edg {w : World} {B : Nat} {A : Option Addr} {l : List (Nat × Nat)} (h : RdL encE 2 w B A l) {k : Nat} {x : Nat × Nat} (hk : l[k]? = some x) :
    ∃ g off, A = some ⟨g, off, none⟩ ∧ g < B ∧ w.cell? ⟨g, off + k * 2, none⟩ = some (.int .i64 (x.1 : Int)) ∧ w.cell? ⟨g, off + k * 2 + 1, none⟩ = some (.int .i64 (x.2 : Int)) := by
  obtain ⟨g, off, e, hg, hc⟩ := h.at_ hk
  exact ⟨g, off, e, hg, hc 0 _ rfl, hc 1 _ rfl⟩
theorem info_bool : (Tryz.prog.info? 4).map (fun i => (i.zero, i.size, i.bytes)) = some (some (.bool false), 1, 1) := by kernel_rfl
set_option maxRecDepth 100000 in
set_option maxHeartbeats 4000000 in
theorem flowWalks_no (p : Prg) (th : Int) (ways : List Bool) (Aw : Option Addr) (cw : Nat) (w : World) (hE : Env p w) (ha : askedN p th ≠ 0) :
    Calls Tryz.prog 4 #[p.val, .int .i64 th, .slice Aw ways.length cw] w fun e w' => e = .returned (.bool true) ∧ Below w.heap.size w w' := by
  have HE := Lib.hid hE; clear hE
  have hb0 : Hid (Below w.heap.size w (w.alloc (.cells p.cells 27))) := Lib.hid (by go_grown)
  have hrl : Hid (reachL p th = []) := Lib.hid (by unfold reachL; rw [if_neg ha])
  rcases asked_cases p th with h | h | h
  · exact absurd h ha
  all_goals
    have HA := Lib.hid h
    clear h ha
    unfold Prg.val
    go_enter Tryz.func4, Tryz.ntmps4
    go_upto_region 2 with (first
      | (go_at_call 9; refine (told_any p th (w.alloc (.cells p.cells 27)) (HE.out.keep hb0.out)).mono ?_; rintro e w1 ⟨A, c, AT, cT, ls, lp, rfl, ht, hb⟩; have HT := Lib.hid ht; have HB := Lib.hid (hb0.out.trans (hb.mono (by simp))); clear ht hb; rw [toldV_eq])
      | (refine wpList_store_new rfl rfl 44 _ _ rfl _ _ (toldA p th A c AT cT ls lp) (by rfl) (by rfl) (toldA_size p th A c AT cT ls lp) (by rfl) (toldA_one p th A c AT cT ls lp) ?_))
    have hbx : Below w1.heap.size w1 (w1.alloc (.cells (toldA p th A c AT cT ls lp) 44)) := by go_grown
    have hx : Blk (w1.alloc (.cells (toldA p th A c AT cT ls lp) 44)) w1.heap.size 44 (toldA p th A c AT cT ls lp) := Blk.new _ _ _
    generalize hW : World.alloc w1 _ = w2 at hbx hx ⊢
    clear hW
    have HB2 := Lib.hid (HB.out.trans (hbx.mono HB.out.size))
    have d15 : w2.cell? ⟨w1.heap.size, 15, none⟩ = some (.int .i64 (askedN p th)) := hx.cell 15
    have d1 : w2.cell? ⟨w1.heap.size, 1, none⟩ = some (.slice (A 1) (reachL p th).length (c 1)) := hx.cell 1
    have hlx := hx.lt
    rw [HA.out] at d15
    rw [hrl.out] at d1
    clear hbx hx
    go_wp2_with (go_at_call 6; refine (known_any w2 (HE.out.keep HB2.out).env0).mono ?_; rintro e w9 ⟨rfl, hb9⟩; have HB9 := Lib.hid hb9; clear hb9)
    go_ret
    exact ⟨rfl, HB2.out.trans (HB9.out.mono HB2.out.size)⟩
set_option maxRecDepth 100000 in
set_option maxHeartbeats 8000000 in
theorem flowWalks_yes (p : Prg) (th : Int) (ways : List Bool) (Aw : Option Addr) (cw : Nat) (w : World) (hE : Env p w) (ha : askedN p th = 0) (hR : RdL encBo 1 w w.heap.size Aw ways) (hlw : ways.length ≤ 1152921504606846976) :
    Calls Tryz.prog 4 #[p.val, .int .i64 th, .slice Aw ways.length cw] w fun e w' => e = .returned (.bool true) ∧ Below w.heap.size w w' := by
  have HE := Lib.hid hE; clear hE
  have HR := Lib.hid hR; clear hR
  have hb0 : Hid (Below w.heap.size w (w.alloc (.cells p.cells 27))) := Lib.hid (by go_grown)
  have hbp : Hid (Blk (w.alloc (.cells p.cells 27)) w.heap.size 27 p.cells) := Lib.hid (Blk.new w _ _)
  obtain ⟨hck, k, rfl, hk⟩ := asked_ok ha
  have HC := Lib.hid hck
  have HG := Lib.hid (good_of hck)
  obtain ⟨t, ht⟩ := get_some hk
  have HTH := Lib.hid ht
  have HA := Lib.hid ha
  have hcd := Lib.hid (codeAt_get ht)
  have HOK := Lib.hid (HG.out.code t (get_mem ht))
  have hcl : t.code.length ≤ 4096 := HOK.out.le
  have hcp : 0 < t.code.length := HOK.out.pos
  have hlk : p.locks.length ≤ 4096 := HG.out.locks
  have hth : p.threads.length ≤ 65535 := HG.out.thr2
  clear ha ht hck
  unfold Prg.val
  go_enter Tryz.func4, Tryz.ntmps4
  go_upto_region 2 with (first
    | (go_at_call 9; refine (told_any p (k : Int) (w.alloc (.cells p.cells 27)) (HE.out.keep hb0.out)).mono ?_; rintro e w1 ⟨A, c, AT, cT, ls, lp, rfl, ht, hb⟩; have HT := Lib.hid ht; have HBP := Lib.hid (hbp.out.below hb (by simp)); have HB := Lib.hid (hb0.out.trans (hb.mono (by simp))); clear ht hb; rw [toldV_eq])
    | (refine wpList_store_new rfl rfl 44 _ _ rfl _ _ (toldA p (k : Int) A c AT cT ls lp) (by rfl) (by rfl) (toldA_size p (k : Int) A c AT cT ls lp) (by rfl) (toldA_one p (k : Int) A c AT cT ls lp) ?_))
  have hbx : Below w1.heap.size w1 (w1.alloc (.cells (toldA p (k : Int) A c AT cT ls lp) 44)) := by go_grown
  have hx : Blk (w1.alloc (.cells (toldA p (k : Int) A c AT cT ls lp) 44)) w1.heap.size 44 (toldA p (k : Int) A c AT cT ls lp) := Blk.new _ _ _
  generalize hW : World.alloc w1 _ = w2 at hbx hx ⊢
  clear hW
  have HT2 := Lib.hid (HT.out.keep hbx)
  have HB2 := Lib.hid (HB.out.trans (hbx.mono HB.out.size))
  have HBP2 := Lib.hid (HBP.out.below hbx HBP.out.lt)
  have HX := Lib.hid hx
  clear hbx hx HT HB HBP
  obtain ⟨s1, HH1, hl1⟩ : ∃ s1, Hid (Held (· &&& ·) t.code s1) ∧ ls = s1.map lstO := by
    rcases HT2.out.hs with ⟨_, s1, h1, h2⟩ | ⟨h1, _⟩
    · rw [hcd.out] at h1
      exact ⟨s1, Lib.hid h1, h2⟩
    · exact absurd HA.out h1
  obtain ⟨s2, HH2, hl2⟩ : ∃ s2, Hid (Held (· ||| ·) t.code s2) ∧ lp = s2.map lstO := by
    rcases HT2.out.hp with ⟨_, s2, h1, h2⟩ | ⟨h1, _⟩
    · rw [hcd.out] at h1
      exact ⟨s2, Lib.hid h1, h2⟩
    · exact absurd HA.out h1
  have n1 : ls.length = t.code.length := by rw [hl1, List.length_map]; exact HH1.out.len
  have n2 : lp.length = t.code.length := by rw [hl2, List.length_map]; exact HH2.out.len
  have N1 := Lib.hid n1
  have N2 := Lib.hid n2
  have HL1 := Lib.hid hl1
  have HL2 := Lib.hid hl2
  have d15 : w2.cell? ⟨w1.heap.size, 15, none⟩ = some (.int .i64 (askedN p (k : Int))) := HX.out.cell 15
  have d2 : w2.cell? ⟨w1.heap.size, 2, none⟩ = some (.slice (A 2) (startL p).length (c 2)) := HX.out.cell 2
  have d4 : w2.cell? ⟨w1.heap.size, 4, none⟩ = some (.slice (A 4) ls.length (c 4)) := HX.out.cell 4
  have d5 : w2.cell? ⟨w1.heap.size, 5, none⟩ = some (.slice (A 5) lp.length (c 5)) := HX.out.cell 5
  rw [HA.out] at d15
  rw [n1] at d4
  rw [n2] at d5
  clear hl1 hl2 n1 n2
  have hlx := HX.out.lt
  have hly := HBP2.out.lt
  have e2 : w2.cell? ⟨w.heap.size, 2, none⟩ = some (.slice p.Al p.locks.length p.cl) := HBP2.out.cell 2
  have e4 : w2.cell? ⟨w.heap.size, 4, none⟩ = some (.slice p.At p.threads.length p.ct) := HBP2.out.cell 4
  obtain ⟨g, off, hAg, hgl, _, t1, _⟩ := ((HE.out.keep HB2.out).in_.threads).thr HTH.out
  have HAG := Lib.hid hAg
  rw [hAg] at e4
  clear hAg
  have q1 : decide ((k : Int) < 0) = false := by simp only [decide_eq_false_iff_not]; omega
  have q2 : decide ((p.threads.length : Int) ≤ (k : Int)) = false := by simp only [decide_eq_false_iff_not]; omega
  have hk2 : (k : Int) < (p.threads.length : Int) := by omega
  go_upto_region 4 with (fail)
  go_quiet (fail)
  have hbd : Below w2.heap.size w2 (w2.drewN nq) := below_drewN (Below.refl _ _) _
  generalize hW : World.drewN w2 _ = w3 at hbd ⊢
  clear hW d15 d2 d4 d5 hlx hly e2 e4 t1 hgl
  have HB3 := Lib.hid (HB2.out.trans (hbd.mono HB2.out.size))
  have HT3 := Lib.hid (HT2.out.keep hbd)
  have HX3 := Lib.hid (HX.out.below hbd HX.out.lt)
  have HBP3 := Lib.hid (HBP2.out.below hbd HBP2.out.lt)
  have HE3 := Lib.hid (HE.out.keep HB3.out)
  clear hbd
  have d2 : w3.cell? ⟨w1.heap.size, 2, none⟩ = some (.slice (A 2) (startL p).length (c 2)) := HX3.out.cell 2
  have hlx := HX3.out.lt
  have hly := HBP3.out.lt
  have e2 : w3.cell? ⟨w.heap.size, 2, none⟩ = some (.slice p.Al p.locks.length p.cl) := HBP3.out.cell 2
  have e4 : w3.cell? ⟨w.heap.size, 4, none⟩ = some (.slice p.At p.threads.length p.ct) := HBP3.out.cell 4
  rw [HAG.out] at e4
  obtain ⟨g', off', hAg', hgl, _, t1, _⟩ := (HE3.out.in_.threads).thr HTH.out
  obtain ⟨rfl, rfl⟩ : g = g' ∧ off = off' := by
    have h := HAG.out.symm.trans hAg'
    simp at h
    exact h
  clear hAg'
  obtain ⟨i0, hi0, iz0, iz1, iz2⟩ := info_parts info_bool
  have hsl : Hid ((startL p).length ≤ 4611686018427387904) := Lib.hid (by
    have h1 : (startL p).length = ((List.range p.threads.length).filter fun t => p.startM.testBit t).length := by
      unfold startL
      rw [if_pos (show askedN p 0 = 0 from asked_of HC.out (k := 0) HG.out.thr1), start_range HC.out]
    have h2 := List.length_filter_le (fun t => p.startM.testBit t) (List.range p.threads.length)
    rw [List.length_range] at h2
    omega)
  go_wp2_with (first
    | (refine wpList_make_full w3 rfl (.tmp 83) (.tmp 83) 39 rfl w3.heap.size 4 i0 _ 1 Tryz.underlying39 hi0 iz0 iz1 .i64 .i64 _ _ p.locks.length rfl rfl rfl rfl (by rw [iz2]; omega) (by simp only [maxLen]; omega) (Nat.le_refl _) ?_; intro w4 hown hgr; have HO4 := Lib.hid hown; have HB4 := Lib.hid (below_made hgr); clear hown hgr; have d2' : w4.cell? ⟨w1.heap.size, 2, none⟩ = some (.slice (A 2) (startL p).length (c 2)) := (HB4.out.cell hlx).trans d2; clear d2 e2 e4 t1 hly hgl)
    | (go_at_call 8; refine (has_any (startL p) k (A 2) (c 2) w4 ((HT3.out.keep HB4.out).started) hsl.out).mono ?_; rintro e w' ⟨rfl, rfl⟩)
    | fail)
  clear d2'
  generalize hmay : hasB (startL p) (k : Int) = may
  have HMAY := Lib.hid hmay
  clear hmay
  have hW0 : Hid (WS w3 w4 t.code s1 s2 0 (List.replicate p.locks.length false) 0 p.locks.length) := Lib.hid ⟨WInv.first HH1.out HH2.out _, by simp, by
    have h := HO4.out
    have e : (madeCells (Value.bool false).cells (p.locks.length * 1)).toList = List.replicate p.locks.length (Value.bool false) := by
      rw [Nat.mul_one]
      exact toList_madeCells_one _ _
    rw [e] at h
    rw [List.map_replicate]
    exact h, HB4.out⟩
  clear HO4 i0 hi0 iz0 iz1 iz2
  go_loopw [11, 12, 13] (fun av wv nv wr => ∃ (a wy n : Nat) (hs : List Bool) (h : Nat), av = .int .i64 a ∧ wv = .int .i64 wy ∧ nv = .int .i64 n ∧ n ≤ t.code.length + 2 * ways.length ∧ wy ≤ ways.length ∧ WS w3 wr t.code s1 s2 a hs h p.locks.length) (fun _ _ nv _ => t.code.length + 2 * ways.length - (intOf nv).toNat)
  case atStart => exact ⟨0, 0, 0, _, 0, rfl, rfl, rfl, by omega, by omega, hW0.out⟩
  case round =>
    obtain ⟨a, wy, n, hs, h, rfl, rfl, rfl, hn, hwy, hws⟩ := hrel
    have HW := Lib.hid hws
    clear hws
    have HBw := Lib.hid HW.out.below
    have HEr := Lib.hid (HE3.out.keep HBw.out)
    by_cases hnl : n < t.code.length + 2 * ways.length
    · have hal : a < t.code.length := HW.out.inv.come.lt HOK.out
      obtain ⟨x, hx⟩ := get_some hal
      have HX := Lib.hid hx
      clear hx
      have HTr := Lib.hid (HT3.out.keep HBw.out)
      have HXr := Lib.hid (HX3.out.below HBw.out HX3.out.lt)
      obtain ⟨U, hU, hUs⟩ := HW.out.inv.surely
      obtain ⟨V, hV, hVs⟩ := HW.out.inv.perhaps
      obtain ⟨lU, lV⟩ := HW.out.inv.lens (N := 4096) HH2.out (fun i y hy h15 => by have := HG.out.lock (get_mem HTH.out) hy (.inl h15); omega) (by rw [HW.out.len]; exact hlk) hU hV
      obtain ⟨gs, hA4, hgs, As, cs', hcs, hrs⟩ := HTr.out.surely a (listM U) (by rw [HL1.out]; exact hU)
      obtain ⟨gp, hA5, hgp, Ap, cp', hcp, hrp⟩ := HTr.out.perhaps a (listM V) (by rw [HL2.out]; exact hV)
      have HRS := Lib.hid hrs
      have HRP := Lib.hid hrp
      have HA4 := Lib.hid hA4
      have HA5 := Lib.hid hA5
      have HFI := Lib.hid (And.intro hUs hVs)
      have HLU := Lib.hid (And.intro lU lV)
      clear hrs hrp hUs hVs hU hV lU lV
      have x1 : wr.cell? ⟨w1.heap.size, 1, none⟩ = some (.slice (A 1) (reachL p (k : Int)).length (c 1)) := HXr.out.cell 1
      have x4 : wr.cell? ⟨w1.heap.size, 4, none⟩ = some (.slice (A 4) ls.length (c 4)) := HXr.out.cell 4
      have x5 : wr.cell? ⟨w1.heap.size, 5, none⟩ = some (.slice (A 5) lp.length (c 5)) := HXr.out.cell 5
      rw [N1.out, hA4] at x4
      rw [N2.out, hA5] at x5
      clear hA4 hA5
      have hlr := HXr.out.lt
      have HCH := Lib.hid (show hasB (reachL p (k : Int)) (a : Int) = true by
        unfold reachL
        rw [if_pos HA.out, hcd.out, hasB_bit, comeM_bit HOK.out]
        exact HW.out.inv.come)
      have HCLn := Lib.hid (show (reachL p (k : Int)).length ≤ 4611686018427387904 by
        unfold reachL
        rw [if_pos HA.out, hcd.out]
        have := listM_short (S := comeM t.code) (N := t.code.length) fun j hj => ((comeM_bit HOK.out j).1 hj).lt HOK.out
        omega)
      have hdn : Hid (∀ q, Below wr.heap.size wr (wr.drewN q)) := Lib.hid (fun q => below_drewN (Below.refl _ _) q)
      have cH : ∀ q, Calls Tryz.prog 8 #[.slice (A 1) (reachL p (k : Int)).length (c 1), .int .i64 (a : Int)] (wr.drewN q) fun e w' => e = .returned (.bool true) ∧ w' = wr.drewN q := fun q =>
        (has_any _ _ _ _ _ (HTr.out.keep (hdn.out q)).reach HCLn.out).mono fun e w' h => ⟨h.1.trans (by rw [HCH.out]), h.2.symm⟩
      have cF : ∀ q, Calls Tryz.prog 10 #[.slice (some ⟨w3.heap.size, 0, none⟩) p.locks.length p.locks.length, .slice As (listM U).length cs', .slice Ap (listM V).length cp'] (wr.drewN q) fun e w' => e = .returned (.bool true) ∧ w' = wr.drewN q := fun q => by
        have h := fits_any hs (listM U) (listM V) (some ⟨w3.heap.size, 0, none⟩) As Ap p.locks.length cs' cp' (wr.drewN q) (((own_readB HW.out.row HW.out.len.symm).below (hdn.out q)).more (hdn.out q).size) ((HRS.out.below (hdn.out q)).more (hdn.out q).size) ((HRP.out.below (hdn.out q)).more (hdn.out q).size) (by rw [HW.out.len]; omega) (by have := HLU.out.1; omega) (by have := HLU.out.2; omega) HFI.out.1 HFI.out.2
        rw [HW.out.len] at h
        exact h.mono fun e w' h => ⟨h.1, h.2.symm⟩
      have HcH := Lib.hid cH
      have HcF := Lib.hid cF
      clear cH cF
      have q3 : decide ((a : Int) < 0) = false := by simp only [decide_eq_false_iff_not]; omega
      have q4 : decide ((t.code.length : Int) ≤ (a : Int)) = false := by simp only [decide_eq_false_iff_not]; omega
      have ha2 : (a : Int) < (t.code.length : Int) := by omega
      go_upto_region 14 with (fail)
      go_quiet ((first | (go_at_call 8; exact Calls.quiet_of_same (HcH.out _)) | (go_at_call 10; exact Calls.quiet_of_same (HcF.out _))))
      have hbd := hdn.out nq
      generalize hW : World.drewN wr _ = w5 at hbd ⊢
      clear hW x1 x4 x5 hcs hcp hlr
      have HB5 := Lib.hid (HBw.out.trans (hbd.mono HBw.out.size))
      have HW5 : Hid (WS w3 w5 t.code s1 s2 a hs h p.locks.length) := Lib.hid ⟨HW.out.inv, HW.out.len, own_foot HW.out.row (Foot.of_below hbd) (fun q hq => by have := (HW.out.row.lt q hq).2; omega), HB5.out⟩
      clear hbd
      have HE5 := Lib.hid (HE3.out.keep HB5.out)
      have HT5 := Lib.hid (HT3.out.keep HB5.out)
      have HX5 := Lib.hid (HX3.out.below HB5.out HX3.out.lt)
      have HM := Lib.hid (show ∀ j : Nat, j < 9 → x.op = 11 + (j : Int) → hasB (touchesL p (k : Int) j) x.n = may from fun j hj ho => by
        have hne : listOf x.op ≠ 0 := by
          rw [ho]
          have h9 : j = 0 ∨ j = 1 ∨ j = 2 ∨ j = 3 ∨ j = 4 ∨ j = 5 ∨ j = 6 ∨ j = 7 ∨ j = 8 := by omega
          rcases h9 with rfl | rfl | rfl | rfl | rfl | rfl | rfl | rfl | rfl <;> decide
        have h0 := (HG.out.num (get_mem HTH.out) HX.out hne).1
        rw [← HMAY.out]
        exact touch_may HC.out hk (by rw [hcd.out]; exact HOK.out) (by rw [hcd.out]; exact HX.out) (by rw [hcd.out]; exact HW.out.inv.come) ho (m := x.n.toNat) (by omega))
      obtain ⟨g2, off2, hAc, hg2, z0, z1, z2, z3, z4⟩ := ((HE5.out.in_.thr t (get_mem HTH.out)).code).ins HX.out
      have HAC := Lib.hid hAc
      rw [hAc]
      clear hAc
      have r6 : w5.cell? ⟨w1.heap.size, 6, none⟩ = some (.slice (AT 0) (touchesL p (k : Int) 0).length (cT 0)) := HX5.out.cell 6
      have r7 : w5.cell? ⟨w1.heap.size, 7, none⟩ = some (.slice (AT 1) (touchesL p (k : Int) 1).length (cT 1)) := HX5.out.cell 7
      have r8 : w5.cell? ⟨w1.heap.size, 8, none⟩ = some (.slice (AT 2) (touchesL p (k : Int) 2).length (cT 2)) := HX5.out.cell 8
      have r9 : w5.cell? ⟨w1.heap.size, 9, none⟩ = some (.slice (AT 3) (touchesL p (k : Int) 3).length (cT 3)) := HX5.out.cell 9
      have r10 : w5.cell? ⟨w1.heap.size, 10, none⟩ = some (.slice (AT 4) (touchesL p (k : Int) 4).length (cT 4)) := HX5.out.cell 10
      have r11 : w5.cell? ⟨w1.heap.size, 11, none⟩ = some (.slice (AT 5) (touchesL p (k : Int) 5).length (cT 5)) := HX5.out.cell 11
      have r12 : w5.cell? ⟨w1.heap.size, 12, none⟩ = some (.slice (AT 6) (touchesL p (k : Int) 6).length (cT 6)) := HX5.out.cell 12
      have r13 : w5.cell? ⟨w1.heap.size, 13, none⟩ = some (.slice (AT 7) (touchesL p (k : Int) 7).length (cT 7)) := HX5.out.cell 13
      have r14 : w5.cell? ⟨w1.heap.size, 14, none⟩ = some (.slice (AT 8) (touchesL p (k : Int) 8).length (cT 8)) := HX5.out.cell 14
      have hlr := HX5.out.lt
      have hal : Hid (∀ W, W = w5.alloc (.cells #[.int .i64 x.op, .int .i64 x.a, .int .i64 x.b, .int .i64 x.c, .int .i64 x.n] 53) → Below w5.heap.size w5 W) := Lib.hid (by rintro W rfl; go_grown)
      go_upto_region 19 with (go_at_call 11; refine (touched_any x AT cT (touchesL p (k : Int)) may (w5.alloc (.cells #[.int .i64 x.op, .int .i64 x.a, .int .i64 x.b, .int .i64 x.c, .int .i64 x.n] 53)) ((HT5.out.keep (hal.out _ rfl)).touch) (fun j hj => touchesL_len HC.out hk hj) HM.out).mono ?_; rintro e w7 ⟨rfl, hb7⟩; have HB7 := Lib.hid hb7; clear hb7)
      have hi5 : Blk (w5.alloc (.cells #[.int .i64 x.op, .int .i64 x.a, .int .i64 x.b, .int .i64 x.c, .int .i64 x.n] 53)) w5.heap.size 53 #[.int .i64 x.op, .int .i64 x.a, .int .i64 x.b, .int .i64 x.c, .int .i64 x.n] := Blk.new _ _ _
      have HI7 := Lib.hid (hi5.below HB7.out hi5.lt)
      have HB57 := Lib.hid ((hal.out _ rfl).trans (HB7.out.mono (hal.out _ rfl).size))
      clear hi5 hg2
      have HB37 := Lib.hid (HB5.out.trans (HB57.out.mono HB5.out.size))
      have HW7 : Hid (WS w3 w7 t.code s1 s2 a hs h p.locks.length) := Lib.hid ⟨HW.out.inv, HW.out.len, own_foot HW5.out.row (Foot.of_below HB57.out) (fun q hq => by have := (HW5.out.row.lt q hq).2; omega), HB37.out⟩
      have hlr7 := (HX3.out.below HB37.out HX3.out.lt).lt
      obtain ⟨op, hop⟩ : ∃ op, x.op = op := ⟨_, rfl⟩
      obtain ⟨xn, hxn⟩ : ∃ xn, x.n = xn := ⟨_, rfl⟩
      have y0 : w7.cell? ⟨w5.heap.size, 0, none⟩ = some (.int .i64 op) := by rw [← hop]; exact HI7.out.cell 0
      have y4 : w7.cell? ⟨w5.heap.size, 4, none⟩ = some (.int .i64 xn) := by rw [← hxn]; exact HI7.out.cell 4
      have HOP := Lib.hid hop
      have HN := Lib.hid hxn
      clear hop hxn r6 r7 r8 r9 r10 r11 r12 r13 r14 z0 z1 z2 z3 z4
      have hly := HI7.out.lt
      go_upto_block 2 with (fail)
      go_cut [12, 15] from 89 to 209 (fun uv nv wx => SW w3 wx t.code s1 s2 p.locks.length ways.length a h x uv nv)
      case first =>
        by_cases h15 : op = 15
        · subst h15
          have hn15 := HG.out.lock (get_mem HTH.out) HX.out (.inl HOP.out)
          rw [HN.out] at hn15
          obtain ⟨m, rfl⟩ : ∃ m : Nat, xn = (m : Int) := ⟨xn.toNat, by omega⟩
          have hm2 : (m : Int) < (p.locks.length : Int) := by omega
          have v0 := HW7.out.row.cells (g := w3.heap.size) rfl m (.bool (hs[m]'(by rw [HW.out.len]; omega))) (by rw [List.getElem?_map, List.getElem?_eq_getElem]; rfl)
          rw [add_plain', Nat.zero_add] at v0
          obtain ⟨csb, hbk⟩ := own_blk HW7.out.row (g := w3.heap.size) rfl
          have v1 := hbk.frozen m
          have v2 := hbk.lt
          clear hbk
          go_wp2_with (fail)
          go_meet
          case rel => exact ⟨a + 1, wy, hs.set m true, rfl, by go_num, on_plain HX.out (by rw [HOP.out]; decide) (by rw [HOP.out]; decide) (by rw [HOP.out]; decide), hwy, WInv.step HH1.out HH2.out HW.out.inv HX.out (on_plain HX.out (by rw [HOP.out]; decide) (by rw [HOP.out]; decide) (by rw [HOP.out]; decide)) (WInv.lock HW.out.inv HOP.out HN.out (by rw [HW.out.len]; omega)), by rw [List.length_set]; exact HW.out.len, by rw [List.map_set]; exact own_set' HW7.out.row m (.bool true), HB37.out.setCell (Nat.le_refl _) _⟩
        by_cases h16 : op = 16
        · subst h16
          have hn15 := HG.out.lock (get_mem HTH.out) HX.out (.inr HOP.out)
          rw [HN.out] at hn15
          obtain ⟨m, rfl⟩ : ∃ m : Nat, xn = (m : Int) := ⟨xn.toNat, by omega⟩
          have hm2 : (m : Int) < (p.locks.length : Int) := by omega
          have v0 := HW7.out.row.cells (g := w3.heap.size) rfl m (.bool (hs[m]'(by rw [HW.out.len]; omega))) (by rw [List.getElem?_map, List.getElem?_eq_getElem]; rfl)
          rw [add_plain', Nat.zero_add] at v0
          obtain ⟨csb, hbk⟩ := own_blk HW7.out.row (g := w3.heap.size) rfl
          have v1 := hbk.frozen m
          have v2 := hbk.lt
          clear hbk
          go_wp2_with (fail)
          go_meet
          case rel => exact ⟨a + 1, wy, hs.set m false, rfl, by go_num, on_plain HX.out (by rw [HOP.out]; decide) (by rw [HOP.out]; decide) (by rw [HOP.out]; decide), hwy, WInv.step HH1.out HH2.out HW.out.inv HX.out (on_plain HX.out (by rw [HOP.out]; decide) (by rw [HOP.out]; decide) (by rw [HOP.out]; decide)) (WInv.unlock HW.out.inv HOP.out HN.out (by rw [HW.out.len]; omega)), by rw [List.length_set]; exact HW.out.len, by rw [List.map_set]; exact own_set' HW7.out.row m (.bool false), HB37.out.setCell (Nat.le_refl _) _⟩
        have HS : Hid (∀ q ∈ onN t.code a, WS w3 w7 t.code s1 s2 q hs (trN x h) p.locks.length) := Lib.hid fun q hq => ⟨WInv.step HH1.out HH2.out HW.out.inv HX.out hq (WInv.same HW.out.inv (by rw [HOP.out]; exact h15) (by rw [HOP.out]; exact h16)), HW.out.len, HW7.out.row, HB37.out⟩
        have HE7 := Lib.hid (HE3.out.keep HB37.out)
        by_cases h17 : op = 17
        · subst h17
          have hn17 := HG.out.fork (get_mem HTH.out) HX.out HOP.out
          rw [HN.out] at hn17
          obtain ⟨m, rfl⟩ : ∃ m : Nat, xn = (m : Int) := ⟨xn.toNat, by omega⟩
          have HON := Lib.hid (on_plain HX.out (by rw [HOP.out]; decide) (by rw [HOP.out]; decide) (by rw [HOP.out]; decide))
          have s2' : w7.cell? ⟨w1.heap.size, 2, none⟩ = some (.slice (A 2) (startL p).length (c 2)) := (HX3.out.below HB37.out HX3.out.lt).cell 2
          have HT7 := Lib.hid (HT3.out.keep HB37.out)
          clear h15 h16
          rcases may with _ | _
          · go_wp2_with (fail)
            go_meet
            case rel => exact ⟨a + 1, wy, hs, rfl, by go_num, HON.out, hwy, HS.out _ HON.out⟩
          · have HF := Lib.hid (fork_started HC.out HTH.out HX.out HW.out.inv.come HOP.out HN.out HMAY.out)
            go_wp2_with (go_at_call 8; refine (has_any (startL p) (m : Int) (A 2) (c 2) w7 HT7.out.started hsl.out).mono ?_; rintro e w' ⟨rfl, rfl⟩; rw [HF.out])
            go_meet
            case rel => exact ⟨a + 1, wy, hs, rfl, by go_num, HON.out, hwy, HS.out _ HON.out⟩
        by_cases h8 : op = 8
        · subst h8
          have hn8 := HOK.out.jmp a x HX.out (.inl HOP.out)
          rw [HN.out] at hn8
          obtain ⟨m, rfl⟩ : ∃ m : Nat, xn = (m : Int) := ⟨xn.toNat, by omega⟩
          have HON := on_jump HX.out HOP.out
          rw [HN.out, Int.toNat_natCast] at HON
          have HON := Lib.hid HON
          clear h15 h16 h17
          go_wp2_with (fail)
          go_meet
          case rel => exact ⟨m, wy, hs, rfl, rfl, HON.out, hwy, HS.out _ HON.out⟩
        by_cases h9 : op = 9
        · subst h9
          have hn8 := HOK.out.jmp a x HX.out (.inr HOP.out)
          rw [HN.out] at hn8
          obtain ⟨m, rfl⟩ : ∃ m : Nat, xn = (m : Int) := ⟨xn.toNat, by omega⟩
          have HON := on_branch HX.out HOP.out
          rw [HN.out, Int.toNat_natCast] at HON
          have HON := Lib.hid HON
          clear h15 h16 h17 h8
          by_cases hwl : wy = ways.length
          · have hwe : ((wy : Int) == (ways.length : Int)) = true := by simp [hwl]
            have hwd : decide ((wy : Int) = (ways.length : Int)) = true := by simp [hwl]
            clear hwl
            go_wp2_with (go_at_call 6; refine (known_any w7 HE7.out.env0).mono ?_; rintro e w9 ⟨rfl, hb9⟩; have HB9 := Lib.hid hb9; clear hb9)
            go_ret
            exact ⟨rfl, HB3.out.trans ((HB37.out.trans (HB9.out.mono HB37.out.size)).mono HB3.out.size)⟩
          · have hwe : ((wy : Int) == (ways.length : Int)) = false := by simp; omega
            have hwd : decide ((wy : Int) = (ways.length : Int)) = false := by simp; omega
            have hwl2 : (wy : Int) < (ways.length : Int) := by omega
            obtain ⟨y, hy⟩ := get_some (l := ways) (k := wy) (by omega)
            obtain ⟨g3, off3, rfl, hg3, hc3⟩ := (HR.out.below (HB3.out.trans (HB37.out.mono HB3.out.size))).boo hy
            clear hy hwl
            rcases y with _ | _
            · go_wp2_with (fail)
              go_meet
              case rel => exact ⟨a + 1, wy + 1, hs, by go_num, by go_num, HON.out.2, by omega, HS.out _ HON.out.2⟩
            · go_wp2_with (fail)
              go_meet
              case rel => exact ⟨m, wy + 1, hs, by go_num, rfl, HON.out.1, by omega, HS.out _ HON.out.1⟩
        by_cases h20 : op = 20
        · subst h20
          clear h15 h16 h17 h8 h9
          go_wp2_with (go_at_call 6; refine (known_any w7 HE7.out.env0).mono ?_; rintro e w9 ⟨rfl, hb9⟩; have HB9 := Lib.hid hb9; clear hb9)
          go_ret
          exact ⟨rfl, HB3.out.trans ((HB37.out.trans (HB9.out.mono HB37.out.size)).mono HB3.out.size)⟩
        · have HON := Lib.hid (on_plain HX.out (by rw [HOP.out]; exact h8) (by rw [HOP.out]; exact h9) (by rw [HOP.out]; exact h20))
          have o15 : (op == 15) = false := by simp [h15]
          have o16 : (op == 16) = false := by simp [h16]
          have o17 : (op == 17) = false := by simp [h17]
          have o8 : (op == 8) = false := by simp [h8]
          have o9 : (op == 9) = false := by simp [h9]
          have o20 : (op == 20) = false := by simp [h20]
          go_wp2_with (fail)
          go_meet
          case rel => exact ⟨a + 1, wy, hs, rfl, by go_num, HON.out, hwy, HS.out _ HON.out⟩
      case rest =>
        obtain ⟨q, wy', hs', rfl, rfl, hq, hwy', hws⟩ := hcut
        have HQ := Lib.hid hq
        have HWS := Lib.hid hws
        clear hq hws
        have hql : q < t.code.length := on_lt HOK.out HQ.out
        have HBc := Lib.hid HWS.out.below
        have HTc := Lib.hid (HT3.out.keep HBc.out)
        have HXc := Lib.hid (HX3.out.below HBc.out HX3.out.lt)
        have u0' : wc.cell? ⟨w1.heap.size, 0, none⟩ = some (.slice (A 0) (edgesL p (k : Int)).length (c 0)) := HXc.out.cell 0
        have hlc := HXc.out.lt
        have HED := Lib.hid (hasE_edge (p := p) (th := (k : Int)) (a := a) (b := q) HA.out (by rw [hcd.out]; exact HW.out.inv.come.lt HOK.out) (by rw [hcd.out]; exact HQ.out))
        have hel : (edgesL p (k : Int)).length ≤ 8192 := by
          unfold edgesL
          rw [if_pos HA.out, hcd.out]
          have := edges_len t.code t.code.length
          omega
        go_wp2_with (fail)
        go_loop [16, 17] (fun ov kv => ∃ j : Nat, kv = .int .i64 j ∧ j ≤ (edgesL p (k : Int)).length ∧ ov = .bool (hasE ((edgesL p (k : Int)).take j) a q)) (fun _ kv => (edgesL p (k : Int)).length - (intOf kv).toNat)
        case atStart => exact ⟨0, rfl, by omega, rfl⟩
        case round =>
          obtain ⟨j, rfl, hj, rfl⟩ := hrel
          by_cases hlt : j < (edgesL p (k : Int)).length
          · obtain ⟨⟨e1, e2⟩, he⟩ := get_some hlt
            obtain ⟨g3, off3, hA0, hg3, hc0, hc1⟩ := HTc.out.edges.edg he
            have HHS := hasE_succ (a := a) (b := q) he
            rw [hA0] at u0'
            clear he hA0
            have hj2 : (j : Int) < ((edgesL p (k : Int)).length : Int) := by omega
            generalize hb : hasE ((edgesL p (k : Int)).take j) a q = bb at HHS ⊢
            have HHS := Lib.hid HHS
            clear hb
            rcases bb with _ | _
            · by_cases h1 : e1 = a
              · by_cases h2 : e2 = q
                · go_wp2_with (fail)
                  go_round
                  case rel => exact ⟨j + 1, by go_num, by omega, by rw [HHS.out]; simp [h1, h2]⟩
                  case measure => simp [intOf]; omega
                · have h3 : ((e2 : Int) == (q : Int)) = false := by simp; omega
                  go_wp2_with (fail)
                  go_round
                  case rel => exact ⟨j + 1, by go_num, by omega, by rw [HHS.out]; simp [h1, h2]⟩
                  case measure => simp [intOf]; omega
              · have h3 : ((e1 : Int) == (a : Int)) = false := by simp; omega
                go_wp2_with (fail)
                go_round
                case rel => exact ⟨j + 1, by go_num, by omega, by rw [HHS.out]; simp [h1]⟩
                case measure => simp [intOf]; omega
            · go_wp2_with (fail)
              go_round
              case rel => exact ⟨j + 1, by go_num, by omega, by rw [HHS.out, Bool.true_or]⟩
              case measure => simp [intOf]; omega
          · obtain rfl : j = (edgesL p (k : Int)).length := by omega
            rw [List.take_length, HED.out]
            go_wp2_with (fail)
            rw [← HAC.out]
            go_roundw
            case rel => first | exact ⟨q, wy', n + 1, hs', _, rfl, rfl, by go_num, by omega, hwy', HWS.out⟩ | ((repeat apply Exists.intro); exact ⟨⟨q, wy', n + 1, hs', _, rfl, rfl, by go_num, by omega, hwy', HWS.out⟩, rfl⟩)
            case measure => simp [intOf]; omega
    · obtain rfl : n = t.code.length + 2 * ways.length := by omega
      go_wp2_with (go_at_call 6; refine (known_any wr HEr.out.env0).mono ?_; rintro e w9 ⟨rfl, hb9⟩; have HB9 := Lib.hid hb9; clear hb9)
      go_ret
      exact ⟨rfl, HB3.out.trans ((HBw.out.trans (HB9.out.mono HBw.out.size)).mono HB3.out.size)⟩
theorem flowWalks_any (p : Prg) (th : Int) (ways : List Bool) (Aw : Option Addr) (cw : Nat) (w : World) (hE : Env p w) (hR : RdL encBo 1 w w.heap.size Aw ways) (hlw : ways.length ≤ 1152921504606846976) :
    Calls Tryz.prog 4 #[p.val, .int .i64 th, .slice Aw ways.length cw] w fun e w' => e = .returned (.bool true) ∧ Below w.heap.size w w' := by
  by_cases ha : askedN p th = 0
  · exact flowWalks_yes p th ways Aw cw w hE ha hR hlw
  · exact flowWalks_no p th ways Aw cw w hE ha
end Go.Proofs.YtgdnpmpnkbnjaaaGreatDoor
