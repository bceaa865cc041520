/- Contracts of abreastref11.count and abreastref11.Check: what check.Check says. Conditions: the program's data lies in memory and fits. -/
import Derived.Test.YtknnbckmdfnmaaaDoorRefThread
import Derived.Test.YtknnbckmdfnmaaaDoorRefNames
import Derived.Deep.RegionWith
namespace Go.Proofs.YtknnbckmdfnmaaaDoor
open Go.RowKit

set_option maxHeartbeats 400000 in
theorem refCount_any (p : Prg) (part : Int) (w : World) (hf : p.Fits) (hin : p.In w w.heap.size) :
    Calls Tryd.prog 27 #[p.val, .int .i64 part] w fun e w' => e = .returned (.int .i64 ((p.names part.toNat).length : Int)) ∧ Below w.heap.size w w' := by
  have HF := Lib.hid hf; clear hf
  have HI := Lib.hid hin; clear hin
  unfold Prg.val
  go_enter Tryd.func27, Tryd.ntmps27
  go_wp2_with (go_at_call 28; refine (names_any p part _ HF.out (by first | exact HI.out | exact (HI.out.below ((Below.refl _ _).alloc (Nat.le_refl _) _)).more (by simp))).mono ?_; rintro e w1 ⟨v, rfl, hb, hown⟩; obtain ⟨A, c, rfl⟩ := own_form hown; clear hown)
  go_ret
  exact ⟨rfl, ((Below.refl _ _).alloc (Nat.le_refl _) _).trans (hb.mono (by simp))⟩
theorem RdL.kept_above {α : Type} {enc : α → List Value} {size : Nat} {w w' : World} {B base m : Nat} {A : Option Addr} {l : List α} (h : RdL enc size w B A l) (hA : ∀ a, A = some a → base ≤ a.block) (hg : w.grownBy w' (some m)) (hm : m < base) (hB : B ≤ w.heap.size) : RdL enc size w' B A l := by
  intro hne
  obtain ⟨g, off, rfl, hgB, hc⟩ := h hne
  have h1 : base ≤ g := hA _ rfl
  exact ⟨g, off, rfl, hgB, fun k x hk j u hj => (World.cell?_of_block (hg.block g (by omega) (fun e => by injection e with e; omega))).trans (hc k x hk j u hj)⟩
theorem own_lo {w : World} {base : Nat} {e : TypeId} {size n c : Nat} {A : Option Addr} {xs : List Value} (h : w.ownsRow base e size (.slice A n c) n xs) : ∀ a, A = some a → base ≤ a.block := by
  intro a ha
  subst ha
  rcases h.2 with ⟨h0, _⟩ | ⟨g, cap, cur, h1, h2, _⟩
  · cases h0
  · injection h1 with h1
    injection h1 with h1
    subst h1
    exact h2
def badAt (p : Prg) (j : Nat) : Prop := if j = 5 then p.cnt 5 < 1 ∨ 65535 < p.cnt 5 else 4096 < p.cnt j
def cntUpto (p : Prg) (k : Nat) : Prop := ∀ j, 1 ≤ j → j < k → ¬ badAt p j
def cellsAt (p : Prg) (k : Nat) (cs : Array Value) : Prop := cs.size = 6 ∧ ∀ j, j < 6 → cs[j]? = some (.int .i64 ((if j < k then p.cnt j else 0 : Nat) : Int))
theorem part0_eq (p : Prg) : p.part0 = if 4096 < p.cnt 1 then 1 else if 4096 < p.cnt 2 then 2 else if 4096 < p.cnt 3 then 3 else if 4096 < p.cnt 4 then 4 else if 65535 < p.cnt 5 ∨ p.cnt 5 = 0 then 5 else 0 := by
  unfold Prg.part0 cntPart Prg.cnt
  simp [Prg.names]
theorem part0_ok {p : Prg} (h : cntUpto p 6) : p.part0 = 0 := by
  have h1 := h 1 (by omega) (by omega)
  have h2 := h 2 (by omega) (by omega)
  have h3 := h 3 (by omega) (by omega)
  have h4 := h 4 (by omega) (by omega)
  have h5 := h 5 (by omega) (by omega)
  simp [badAt] at h1 h2 h3 h4 h5
  rw [part0_eq, if_neg (by omega), if_neg (by omega), if_neg (by omega), if_neg (by omega), if_neg (by omega)]
theorem part0_bad {p : Prg} {k : Nat} (hk1 : 1 ≤ k) (hk5 : k ≤ 5) (h : cntUpto p k) (hb : badAt p k) : p.part0 = k := by
  rw [part0_eq]
  have hk : k = 1 ∨ k = 2 ∨ k = 3 ∨ k = 4 ∨ k = 5 := by omega
  rcases hk with rfl | rfl | rfl | rfl | rfl
  · simp [badAt] at hb
    rw [if_pos hb]
  · have h1 := h 1 (by omega) (by omega)
    simp [badAt] at hb h1
    rw [if_neg (by omega), if_pos hb]
  · have h1 := h 1 (by omega) (by omega)
    have h2 := h 2 (by omega) (by omega)
    simp [badAt] at hb h1 h2
    rw [if_neg (by omega), if_neg (by omega), if_pos hb]
  · have h1 := h 1 (by omega) (by omega)
    have h2 := h 2 (by omega) (by omega)
    have h3 := h 3 (by omega) (by omega)
    simp [badAt] at hb h1 h2 h3
    rw [if_neg (by omega), if_neg (by omega), if_neg (by omega), if_pos hb]
  · have h1 := h 1 (by omega) (by omega)
    have h2 := h 2 (by omega) (by omega)
    have h3 := h 3 (by omega) (by omega)
    have h4 := h 4 (by omega) (by omega)
    simp [badAt] at hb h1 h2 h3 h4
    rw [if_neg (by omega), if_neg (by omega), if_neg (by omega), if_neg (by omega), if_pos (by omega)]
theorem cntUpto_succ {p : Prg} {k : Nat} (h : cntUpto p k) (hb : ¬ badAt p k) : cntUpto p (k + 1) := by
  intro j h1 h2
  by_cases e : j = k
  · subst e; exact hb
  · exact h j h1 (by omega)
theorem cellsAt_start (p : Prg) : cellsAt p 1 #[.int .i64 0, .int .i64 0, .int .i64 0, .int .i64 0, .int .i64 0, .int .i64 0] := by
  refine ⟨rfl, fun j hj => ?_⟩
  have h : j = 0 ∨ j = 1 ∨ j = 2 ∨ j = 3 ∨ j = 4 ∨ j = 5 := by omega
  rcases h with rfl | rfl | rfl | rfl | rfl | rfl <;> rfl
theorem cellsAt_set {p : Prg} {k : Nat} {cs : Array Value} (h : cellsAt p k cs) (hk : k < 6) : cellsAt p (k + 1) (cs.setIfInBounds k (.int .i64 (p.cnt k : Int))) := by
  refine ⟨by simp [h.1], fun j hj => ?_⟩
  rw [Array.getElem?_setIfInBounds]
  by_cases e : k = j
  · subst e
    rw [if_pos rfl, if_pos (by rw [h.1]; exact hk), if_pos (by omega)]
  · rw [if_neg e, h.2 j hj]
    by_cases hjk : j < k
    · rw [if_pos hjk, if_pos (by omega)]
    · rw [if_neg hjk, if_neg (by omega)]
theorem cellsAt_end {p : Prg} {cs : Array Value} (h : cellsAt p 6 cs) : cs = #[.int .i64 (p.cnt 0 : Int), .int .i64 (p.cnt 1 : Int), .int .i64 (p.cnt 2 : Int), .int .i64 (p.cnt 3 : Int), .int .i64 (p.cnt 4 : Int), .int .i64 (p.cnt 5 : Int)] := by
  refine Array.ext_getElem? fun j => ?_
  rcases Nat.lt_or_ge j 6 with hj | hj
  · rw [h.2 j hj, if_pos hj]
    have h6 : j = 0 ∨ j = 1 ∨ j = 2 ∨ j = 3 ∨ j = 4 ∨ j = 5 := by omega
    rcases h6 with rfl | rfl | rfl | rfl | rfl | rfl <;> rfl
  · rw [Array.getElem?_eq_none (by rw [h.1]; exact hj), Array.getElem?_eq_none (by simpa using hj)]
set_option maxHeartbeats 4000000 in
set_option maxRecDepth 100000 in
theorem refCheck_any (p : Prg) (w : World) (hf : p.Fits) (hin : p.In w w.heap.size) :
    Calls Tryd.prog 9 #[p.val] w fun e w' => e = .returned p.check.val ∧ Below w.heap.size w w' := by
  have HF := Lib.hid hf; clear hf
  have HI := Lib.hid hin; clear hin
  unfold Prg.val
  go_enter Tryd.func9, Tryd.ntmps9
  go_wp2_with fail
  generalize hW : World.alloc _ _ = W1
  have hb1 : Below w.heap.size w W1 := by subst hW; go_grown
  have hbox : Hid (Blk W1 w.heap.size 27 #[.slice p.Av p.vars.length p.cv, .slice p.Ao p.vols.length p.co, .slice p.Al p.locks.length p.cl, .slice p.Ab p.bars.length p.cb, .slice p.At p.threads.length p.ct]) := by
    subst hW
    exact ((Blk.new w _ _).alloc _).alloc _
  have hres : Hid (Blk W1 (w.heap.size + 1) 32 #[.int .i64 0, .int .i64 0, .int .i64 0]) := by
    subst hW
    exact ((Blk.new _ _ _).moved (by simp)).alloc _
  have hcs : Hid (Blk W1 (w.heap.size + 1 + 1) 75 #[.int .i64 0, .int .i64 0, .int .i64 0, .int .i64 0, .int .i64 0, .int .i64 0]) := by
    subst hW
    exact (Blk.new _ _ _).moved (by simp)
  have hs1 : W1.heap.size = w.heap.size + 1 + 1 + 1 := by subst hW; simp
  clear hW
  go_loopw [5] (fun i wr => ∃ (k : Nat) (cs : Array Value), 1 ≤ k ∧ k ≤ 6 ∧ i = .int .i64 k ∧ cellsAt p k cs ∧ cntUpto p k ∧ Blk wr (w.heap.size + 1 + 1) 75 cs ∧ W1.grownBy wr (some (w.heap.size + 1 + 1))) (fun i _ => 6 - (intOf i).toNat)
  case atStart => exact ⟨1, _, by omega, by omega, rfl, cellsAt_start p, fun j h1 h2 => absurd h1 (by omega), hcs.out, World.grownBy.refl _ _⟩
  case round =>
    obtain ⟨k, cs, hk1, hk6, rfl, hca, hcu, hblk, hg⟩ := hrel
    have HCA := Lib.hid hca; clear hca
    have HCU := Lib.hid hcu; clear hcu
    have hwr : W1.heap.size ≤ wr.heap.size := hg.size
    have hbw : Below w.heap.size w wr := hb1.grown hg (by omega) (by intro q hq; injection hq; omega)
    obtain ⟨wo, rfl⟩ : ∃ x : World, x = wr := ⟨_, rfl⟩
    have hboxo := hbox.out.only hg (by omega)
    have hreso := hres.out.only hg (by omega)
    by_cases hlt : k ≤ 5
    · have d0 : wo.cell? ⟨w.heap.size, 0, none⟩ = some (.slice p.Av p.vars.length p.cv) := hboxo.cell 0
      have d1 : wo.cell? ⟨w.heap.size, 1, none⟩ = some (.slice p.Ao p.vols.length p.co) := hboxo.cell 1
      have d2 : wo.cell? ⟨w.heap.size, 2, none⟩ = some (.slice p.Al p.locks.length p.cl) := hboxo.cell 2
      have d3 : wo.cell? ⟨w.heap.size, 3, none⟩ = some (.slice p.Ab p.bars.length p.cb) := hboxo.cell 3
      have d4 : wo.cell? ⟨w.heap.size, 4, none⟩ = some (.slice p.At p.threads.length p.ct) := hboxo.cell 4
      have hlx : w.heap.size < wo.heap.size := hboxo.lt
      have HBLK := Lib.hid hblk; clear hblk
      have HBOX := Lib.hid hboxo; clear hboxo
      have HRES := Lib.hid hreso; clear hreso
      go_wp2_with fail
      refine (refCount_any p k wo HF.out ((HI.out.below hbw).more (by omega))).mono ?_
      rintro e w1 ⟨rfl, hb2⟩
      rw [Int.toNat_natCast]
      have hcn : (p.names k).length = p.cnt k := rfl
      rw [hcn]
      clear hcn d0 d1 d2 d3 d4 hlx
      have hw1 := hb2.size
      have hblk1 := HBLK.out.below hb2 HBLK.out.lt
      have hres1 := HRES.out.below hb2 HRES.out.lt
      have hbox1 := HBOX.out.below hb2 HBOX.out.lt
      have hg1 := only_grown hg (only_of_below hb2 none) (by simp)
      have hbw1 : Below w.heap.size w w1 := hbw.trans (hb2.mono (by omega))
      obtain ⟨v0, hv0⟩ : ∃ v, w1.cell? ⟨w.heap.size + 1 + 1, k, none⟩ = some v := ⟨_, (hblk1.cell k).trans (HCA.out.2 k (by omega))⟩
      have hfz := hblk1.frozen k
      have hlc : w.heap.size + 1 + 1 < w1.heap.size := hblk1.lt
      have hk0 : (0 : Int) ≤ (k : Int) := by omega
      have hk66 : (k : Int) < 6 := by omega
      have HB1 := Lib.hid hblk1; clear hblk1
      have HBX1 := Lib.hid hbox1; clear hbox1
      have HR1 := Lib.hid hres1; clear hres1
      have HG1 := Lib.hid hg1; clear hg1
      have h5 : (k = 5 ∧ (badAt p k ∧ (p.cnt k < 1 ∨ 1 ≤ p.cnt k ∧ 65535 < p.cnt k) ∨ ¬ badAt p k ∧ 1 ≤ p.cnt k ∧ p.cnt k ≤ 65535)) ∨ (k ≤ 4 ∧ (badAt p k ∧ 4096 < p.cnt k ∨ ¬ badAt p k ∧ p.cnt k ≤ 4096)) := by
        unfold badAt
        by_cases h : k = 5
        · subst h
          refine .inl ⟨rfl, ?_⟩
          rw [if_pos rfl]
          omega
        · refine .inr ⟨by omega, ?_⟩
          rw [if_neg h]
          omega
      rcases h5 with ⟨rfl, ⟨hbad, h5⟩ | ⟨hok, h5, h6⟩⟩ | ⟨hk4, ⟨hbad, h5⟩ | ⟨hok, h5⟩⟩
      · have hfin := Lib.hid (check_cnt (p := p) (by rw [part0_bad (by omega) (by omega) HCU.out hbad]; decide))
        rw [part0_bad (by omega) (by omega) HCU.out hbad] at hfin
        clear hbad
        have e0 := HR1.out.frozen 0
        have e1 := HR1.out.frozen 1
        have e2 := HR1.out.frozen 2
        have c0 : w1.cell? ⟨w.heap.size + 1, 0, none⟩ = some (.int .i64 0) := HR1.out.cell 0
        have c1 : w1.cell? ⟨w.heap.size + 1, 1, none⟩ = some (.int .i64 0) := HR1.out.cell 1
        have c2 : w1.cell? ⟨w.heap.size + 1, 2, none⟩ = some (.int .i64 0) := HR1.out.cell 2
        have hl3 : w.heap.size + 1 < w1.heap.size := HR1.out.lt
        rcases h5 with h5 | ⟨h5, h6⟩
        all_goals
          go_wp2_with fail
          try simp only [Exit.inBlock, Exit.then]
          refine bodyPost_ret (v := Spot.val ⟨110, (5 : Nat), 0, 0⟩) ?_ rfl ?_
          · refine results_tmp_cell (t := 2) (p := 3) rfl _ _ (w.heap.size + 1) 32 #[.int .i64 ((5 : Nat) : Int), .int .i64 0, .int .i64 0] (0, 0) _ (by rfl) (by first | exact ((((HR1.out.far (by dsimp only; omega) _).set_ 0 _).set_ 1 _).set_ 2 _) | exact ((((HR1.out.far (by dsimp only; omega) _).alloc _).set_ 0 _).set_ 1 _).set_ 2 _ | exact (((((HR1.out.far (by dsimp only; omega) _).set_ 0 _).set_ 1 _).set_ 2 _).alloc _)) Tryd.underlying32 rfl size_spot
          exact ⟨(congrArg (fun s => Ending.returned (Spot.val s)) hfin.out).symm, by repeat' (first | (with_reducible exact Below.refl _ _) | (with_reducible assumption) | (with_reducible refine below_drewN ?_ _) | (with_reducible refine Below.drew ?_) | (with_reducible refine Below.alloc ?_ ?_ _) | (with_reducible refine Below.setCell ?_ ?_ _) | go_size)⟩

      · have HOK := Lib.hid hok; clear hok
        go_wp2_with fail
        go_roundw
        case rel => exact ⟨5 + 1, _, by omega, by omega, by go_num, cellsAt_set HCA.out (by omega), cntUpto_succ HCU.out HOK.out, HB1.out.set_ 5 _, only_setCell HG1.out (.inl rfl) _⟩
        case measure => first | (simp [intOf]; done) | (simp [intOf]; omega)
      · have hfin := Lib.hid (check_cnt (p := p) (by rw [part0_bad (by omega) (by omega) HCU.out hbad]; omega))
        rw [part0_bad (by omega) (by omega) HCU.out hbad] at hfin
        clear hbad
        have hk5 : ((k : Int) == 5) = false := by rw [beq_eq_false_iff_ne]; omega
        have hk5' : ((k : Int) != 5) = true := by rw [bne_iff_ne]; omega
        have e0 := HR1.out.frozen 0
        have e1 := HR1.out.frozen 1
        have e2 := HR1.out.frozen 2
        have c0 : w1.cell? ⟨w.heap.size + 1, 0, none⟩ = some (.int .i64 0) := HR1.out.cell 0
        have c1 : w1.cell? ⟨w.heap.size + 1, 1, none⟩ = some (.int .i64 0) := HR1.out.cell 1
        have c2 : w1.cell? ⟨w.heap.size + 1, 2, none⟩ = some (.int .i64 0) := HR1.out.cell 2
        have hl3 : w.heap.size + 1 < w1.heap.size := HR1.out.lt
        go_wp2_with fail
        try simp only [Exit.inBlock, Exit.then]
        refine bodyPost_ret (v := Spot.val ⟨110, (k : Nat), 0, 0⟩) ?_ rfl ?_
        · refine results_tmp_cell (t := 2) (p := 3) rfl _ _ (w.heap.size + 1) 32 #[.int .i64 ((k : Nat) : Int), .int .i64 0, .int .i64 0] (0, 0) _ (by rfl) (by first | exact ((((HR1.out.far (by dsimp only; omega) _).set_ 0 _).set_ 1 _).set_ 2 _) | exact ((((HR1.out.far (by dsimp only; omega) _).alloc _).set_ 0 _).set_ 1 _).set_ 2 _ | exact (((((HR1.out.far (by dsimp only; omega) _).set_ 0 _).set_ 1 _).set_ 2 _).alloc _)) Tryd.underlying32 rfl size_spot
        exact ⟨(congrArg (fun s => Ending.returned (Spot.val s)) hfin.out).symm, by repeat' (first | (with_reducible exact Below.refl _ _) | (with_reducible assumption) | (with_reducible refine below_drewN ?_ _) | (with_reducible refine Below.drew ?_) | (with_reducible refine Below.alloc ?_ ?_ _) | (with_reducible refine Below.setCell ?_ ?_ _) | go_size)⟩
      · have HOK := Lib.hid hok; clear hok
        have hk5 : ((k : Int) == 5) = false := by rw [beq_eq_false_iff_ne]; omega
        have hk5' : ((k : Int) != 5) = true := by rw [bne_iff_ne]; omega
        go_wp2_with fail
        go_roundw
        case rel => exact ⟨k + 1, _, by omega, by omega, by go_num, cellsAt_set HCA.out (by omega), cntUpto_succ HCU.out HOK.out, HB1.out.set_ k _, only_setCell HG1.out (.inl rfl) _⟩
        case measure => simp [intOf]; omega
    · have h6k : 6 ≤ k := by omega
      have HP : Hid (p.part0 = 0) := by
        have e : k = 6 := by omega
        subst e
        exact part0_ok HCU.out
      have hce : cs = #[.int .i64 (p.cnt 0 : Int), .int .i64 (p.cnt 1 : Int), .int .i64 (p.cnt 2 : Int), .int .i64 (p.cnt 3 : Int), .int .i64 (p.cnt 4 : Int), .int .i64 (p.cnt 5 : Int)] := by
        have e : k = 6 := by omega
        subst e
        exact cellsAt_end HCA.out
      subst hce
      clear hlt hk1 hk6 HCA HCU
      have HBO := Lib.hid hboxo; clear hboxo
      have HRO := Lib.hid hreso; clear hreso
      have HBL := Lib.hid hblk; clear hblk
      have hsz : w.heap.size + 1 + 1 + 1 ≤ wo.heap.size := by omega
      have HBW := Lib.hid hbw; clear hbw
      clear hg hwr hb1 hbox hres hcs hs1
      have hmm := @run_makeMap Tryd.prog
      go_wp2_with fail
      generalize hW2 : World.alloc _ _ = W2
      have hb2 : Below wo.heap.size wo W2 := by subst hW2; go_grown
      have hm2 : Hid (CntMap W2 wo.heap.size 0 (inSeen [])) := by subst hW2; exact CntMap.made wo
      have hs2 : W2.heap.size = wo.heap.size + 1 := by subst hW2; simp
      clear hW2
      have hbox2 := Lib.hid (HBO.out.below hb2 (by omega))
      have hres2 := Lib.hid (HRO.out.below hb2 (by omega))
      have hbl2 := Lib.hid (HBL.out.below hb2 (by omega))
      have HBW2 := Lib.hid (HBW.out.trans (hb2.mono (by omega)))
      clear HBO HRO HBL HBW hb2
      go_loopw [8] (fun i wr => ∃ (k : Nat) (seen : List (List UInt8)), 1 ≤ k ∧ k ≤ 6 ∧ i = .int .i64 k ∧ scanP p.names 6 0 [] = scanP p.names (6 - k) k seen ∧ CntMap wr wo.heap.size seen.length (inSeen seen) ∧ seen.length ≤ k * 65535 ∧ W2.grownBy wr (some wo.heap.size)) (fun i _ => 6 - (intOf i).toNat)
      case atStart => exact ⟨1, [], by omega, by omega, rfl, rfl, hm2.out, by simp, World.grownBy.refl _ _⟩
      case round =>
        obtain ⟨k, seen, hk1, hk6, rfl, hsc, hcm, hsl, hg⟩ := hrel
        have HSC := Lib.hid hsc; clear hsc
        have HCM := Lib.hid hcm; clear hcm
        have hwr : W2.heap.size ≤ wr.heap.size := hg.size
        have HBR := Lib.hid (HBW2.out.grown hg (by omega) (by intro q hq; injection hq; omega))
        obtain ⟨wa, rfl⟩ : ∃ x : World, x = wr := ⟨_, rfl⟩
        have hboxa := Lib.hid (hbox2.out.only hg (by omega))
        have hresa := Lib.hid (hres2.out.only hg (by omega))
        have hbla := Lib.hid (hbl2.out.only hg (by omega))
        have HG := Lib.hid hg; clear hg
        by_cases hlt : k ≤ 5
        · have d0 : wa.cell? ⟨w.heap.size, 0, none⟩ = some (.slice p.Av p.vars.length p.cv) := hboxa.out.cell 0
          have d1 : wa.cell? ⟨w.heap.size, 1, none⟩ = some (.slice p.Ao p.vols.length p.co) := hboxa.out.cell 1
          have d2 : wa.cell? ⟨w.heap.size, 2, none⟩ = some (.slice p.Al p.locks.length p.cl) := hboxa.out.cell 2
          have d3 : wa.cell? ⟨w.heap.size, 3, none⟩ = some (.slice p.Ab p.bars.length p.cb) := hboxa.out.cell 3
          have d4 : wa.cell? ⟨w.heap.size, 4, none⟩ = some (.slice p.At p.threads.length p.ct) := hboxa.out.cell 4
          have hlx : w.heap.size < wa.heap.size := hboxa.out.lt
          go_wp2_with fail
          refine (names_any p k wa HF.out ((HI.out.below HBR.out).more (by have := HBR.out.size; omega))).mono ?_
          rintro e w1 ⟨v, rfl, hb3, hown⟩
          rw [Int.toNat_natCast] at hown
          obtain ⟨A, c, rfl, hc, hR⟩ := RdL.of_own (l := p.names k) (n := (p.names k).length) (enc := encS) (fun _ => rfl) rfl hown
          have HLO := Lib.hid (own_lo hown)
          clear hown d0 d1 d2 d3 d4 hlx
          have HR := Lib.hid hR; clear hR
          have hw1 := hb3.size
          have HCM1 := Lib.hid (HCM.out.grown (only_of_below hb3 none) (by simp))
          have HG1 := Lib.hid (only_grown HG.out (only_of_below hb3 none) (by simp))
          have HN : Hid ((p.names k).length ≤ 65535 ∧ ∀ s ∈ p.names k, s.size ≤ 140737488355328) := ⟨names_len HP.out k (by omega), names_size HF.out k (by omega)⟩
          have hl5 : (p.names k).length ≤ 65535 := HN.out.1
          go_wp2_with fail
          go_loopw [10] (fun j wr => ∃ (i : Nat) (seen2 : List (List UInt8)), i ≤ (p.names k).length ∧ j = .int .i64 i ∧ scanL k (p.names k) 0 seen = scanL k ((p.names k).drop i) i seen2 ∧ CntMap wr wo.heap.size seen2.length (inSeen seen2) ∧ seen2.length = seen.length + i ∧ w1.grownBy wr (some wo.heap.size)) (fun j _ => (p.names k).length - (intOf j).toNat)
          case atStart => exact ⟨0, seen, by omega, rfl, rfl, HCM1.out, rfl, World.grownBy.refl _ _⟩
          case round =>
            obtain ⟨i, seen2, hi, rfl, hsc2, hcm2, hsl2, hg2⟩ := hrel
            have HSC2 := Lib.hid hsc2; clear hsc2
            have HCM2 := Lib.hid hcm2; clear hcm2
            have HSL2 := Lib.hid hsl2
            have hsl3 : seen2.length ≤ 6 * 65535 + 65535 := by omega
            clear hsl2
            have hwr2 : w1.heap.size ≤ wr.heap.size := hg2.size
            have hmlt : wo.heap.size < wr.heap.size := HCM2.out.lt
            have HG2 := Lib.hid hg2
            by_cases hil : i < (p.names k).length
            · obtain ⟨s, hs0⟩ := get_some hil
              have hs : s.size ≤ 140737488355328 := HN.out.2 s (get_mem hs0)
              obtain ⟨g, off, rfl, hgB, q0⟩ := (HR.out.kept_above HLO.out hg2 (by omega) (Nat.le_refl _)).str hs0
              have HX := Lib.hid hs0
              clear hs0 hg2
              go_wp2_with fail
              refine (refName_any s hs _).mono ?_
              rintro e w2 ⟨rfl, hb4⟩
              have hw2 := hb4.size
              have q1 : w2.cell? ⟨g, off + i, none⟩ = some (.string s) := (hb4.cell (p := ⟨g, off + i, none⟩) (by show g < _; omega)).trans q0
              have hcm3 := Lib.hid (HCM2.out.grown (only_of_below hb4 none) (by simp))
              have hg3 := Lib.hid (only_grown HG2.out (only_of_below hb4 none) (by simp))
              have hrb := (hresa.out.below hb3 hresa.out.lt).only hg3.out (by omega)
              have hbw2 : Below w.heap.size w w2 := (HBR.out.trans (hb3.mono HBR.out.size)).grown hg3.out (by have := HBR.out.size; omega) (by intro q hq; injection hq; have := HBW2.out.size; omega)
              cases hn : nameB s with
              | false =>
                have hfin := Lib.hid (check_scan (p := p) HP.out (scan_fin k i 111 (by omega) HSC.out (by rw [HSC2.out, drop_at HX.out, scan_bad hn])))
                have d0 : w2.cell? ⟨w.heap.size + 1, 0, none⟩ = some (.int .i64 0) := hrb.cell 0
                have d1 : w2.cell? ⟨w.heap.size + 1, 1, none⟩ = some (.int .i64 0) := hrb.cell 1
                have d2 : w2.cell? ⟨w.heap.size + 1, 2, none⟩ = some (.int .i64 0) := hrb.cell 2
                have hl3 : w.heap.size + 1 < w2.heap.size := hrb.lt
                have e0 := hrb.frozen 0
                have e1 := hrb.frozen 1
                have e2 := hrb.frozen 2
                go_wp2_with fail
                try simp only [Exit.inBlock, Exit.then]
                refine bodyPost_ret (v := Spot.val ⟨111, k, i, 0⟩) ?_ rfl ?_
                · refine results_tmp_cell (t := 2) (p := 3) rfl _ _ (w.heap.size + 1) 32 #[.int .i64 k, .int .i64 i, .int .i64 0] (0, 0) _ (by rfl) (by first | exact ((hrb.set_ 0 _).set_ 1 _).set_ 2 _ | exact (((hrb.set_ 0 _).set_ 1 _).set_ 2 _).alloc _ | exact (((hrb.set_ 0 _).set_ 1 _).set_ 2 _).drew | exact ((((hrb.set_ 0 _).set_ 1 _).set_ 2 _).alloc _).drew) Tryd.underlying32 rfl size_spot
                exact ⟨(congrArg (fun s => Ending.returned (Spot.val s)) hfin.out).symm, by repeat' (first | (with_reducible exact Below.refl _ _) | (with_reducible assumption) | (with_reducible refine below_drewN ?_ _) | (with_reducible refine Below.drew ?_) | (with_reducible refine Below.alloc ?_ ?_ _) | (with_reducible refine Below.setCell ?_ ?_ _) | go_size)⟩
              | true =>
                have hlook := hcm3.out.look hs
                by_cases hx : s.data.toList ∈ seen2
                · rw [show inSeen seen2 s.data.toList = 1 from by simp [inSeen, hx]] at hlook
                  have hfin := Lib.hid (check_scan (p := p) HP.out (scan_fin k i 112 (by omega) HSC.out (by rw [HSC2.out, drop_at HX.out, scan_twice hn hx])))
                  clear hx
                  have d0 : w2.cell? ⟨w.heap.size + 1, 0, none⟩ = some (.int .i64 0) := hrb.cell 0
                  have d1 : w2.cell? ⟨w.heap.size + 1, 1, none⟩ = some (.int .i64 0) := hrb.cell 1
                  have d2 : w2.cell? ⟨w.heap.size + 1, 2, none⟩ = some (.int .i64 0) := hrb.cell 2
                  have hl3 : w.heap.size + 1 < w2.heap.size := hrb.lt
                  have e0 := hrb.frozen 0
                  have e1 := hrb.frozen 1
                  have e2 := hrb.frozen 2
                  go_wp2_with fail
                  try simp only [Exit.inBlock, Exit.then]
                  refine bodyPost_ret (v := Spot.val ⟨112, k, i, 0⟩) ?_ rfl ?_
                  · refine results_tmp_cell (t := 2) (p := 3) rfl _ _ (w.heap.size + 1) 32 #[.int .i64 k, .int .i64 i, .int .i64 0] (0, 0) _ (by rfl) (by first | exact ((hrb.set_ 0 _).set_ 1 _).set_ 2 _ | exact (((hrb.set_ 0 _).set_ 1 _).set_ 2 _).alloc _ | exact (((hrb.set_ 0 _).set_ 1 _).set_ 2 _).drew | exact ((((hrb.set_ 0 _).set_ 1 _).set_ 2 _).alloc _).drew) Tryd.underlying32 rfl size_spot
                  exact ⟨(congrArg (fun s => Ending.returned (Spot.val s)) hfin.out).symm, by repeat' (first | (with_reducible exact Below.refl _ _) | (with_reducible assumption) | (with_reducible refine below_drewN ?_ _) | (with_reducible refine Below.drew ?_) | (with_reducible refine Below.alloc ?_ ?_ _) | (with_reducible refine Below.setCell ?_ ?_ _) | go_size)⟩
                · rw [show inSeen seen2 s.data.toList = 0 from by simp [inSeen, hx]] at hlook
                  have HXS := Lib.hid hx; clear hx
                  go_wp2_with (at_mapUpdate; go_must (refine wpList_cnt _ rfl _ _ _ rfl wo.heap.size seen2.length (inSeen seen2) (by rfl) hcm3.out (by simp only [maxLen]; omega) s 1 hs (by rfl) (by rfl) (by decide) ?_); intro w3 hcm4 hg4)
                  go_roundw
                  case rel =>
                    refine ⟨i + 1, s.data.toList :: seen2, by omega, by go_num, by rw [HSC2.out, drop_at HX.out, scan_ok hn HXS.out], ?_, by rw [List.length_cons, HSL2.out]; omega, only_grown hg3.out hg4 (by intro q hq; injection hq; omega)⟩
                    have hin1 : (fun l => if l = s.data.toList then 1 else inSeen seen2 l) = inSeen (s.data.toList :: seen2) := by
                      funext l
                      by_cases e : l = s.data.toList
                      · simp [inSeen, e]
                      · simp [inSeen, e]
                    rw [← hin1]
                    exact hcm4
                  case measure => simp [intOf]; omega
            · obtain rfl : i = (p.names k).length := by omega
              have hend : Hid (scanP p.names 6 0 [] = scanP p.names (6 - (k + 1)) (k + 1) seen2) := by
                obtain ⟨m, hm⟩ : ∃ m, 6 - k = m + 1 := ⟨5 - k, by omega⟩
                have h1 : scanL k (p.names k) 0 seen = (none, seen2) := by rw [HSC2.out, List.drop_of_length_le (Nat.le_refl _)]; rfl
                show _ = _
                rw [HSC.out, hm, scanP, h1, show 6 - (k + 1) = m from by omega]
              clear hi hil
              go_wp2_with fail
              go_roundw
              case rel =>
                refine ⟨k + 1, seen2, by omega, by omega, by go_num, hend.out, HCM2.out, ?_, HG1.out.trans HG2.out⟩
                rw [HSL2.out, Nat.succ_mul]
                exact Nat.add_le_add hsl hl5
              case measure => simp [intOf]; omega
        · have h6k2 : 6 ≤ k := by omega
          have HS6 : Hid (scanP p.names 6 0 [] = none) := by
            have e : k = 6 := by omega
            subst e
            exact HSC.out
          clear hlt hk1 hk6 HSC HCM hsl HG
          have h24 : p.bars.length * 24 ≤ 140737488351232 := HF.out.bars
          have h64 : p.threads.length * 64 ≤ 140737488351232 := HF.out.threads
          have hwz := HBR.out.size
          have hbz := hbla.out.lt
          go_wp2_with fail
          go_loopw [11] (fun i wr => ∃ j : Nat, j ≤ p.bars.length ∧ i = .int .i64 j ∧ scanB p.bars 0 = scanB (p.bars.drop j) j ∧ Below wa.heap.size wa wr) (fun i _ => p.bars.length - (intOf i).toNat)
          case atStart => exact ⟨0, by omega, rfl, rfl, Below.refl _ _⟩
          case round =>
            obtain ⟨j, hj, rfl, hsb, hb5⟩ := hrel
            have HSB := Lib.hid hsb; clear hsb
            have hwb := hb5.size
            have HBB := Lib.hid (HBR.out.trans (hb5.mono (by omega)))
            obtain ⟨wb, rfl⟩ : ∃ x : World, x = wr := ⟨_, rfl⟩
            have hboxb := Lib.hid (hboxa.out.below hb5 (by omega))
            have hrb := hresa.out.below hb5 (by omega)
            have hblb := Lib.hid (hbla.out.below hb5 (by omega))
            have hb3' : wb.cell? ⟨w.heap.size, 3, none⟩ = some (.slice p.Ab p.bars.length p.cb) := hboxb.out.cell 3
            have hlx : w.heap.size < wb.heap.size := by omega
            by_cases hjl : j < p.bars.length
            · obtain ⟨x, hx0⟩ := get_some hjl
              obtain ⟨g, off, hA, hgB, r0, r1⟩ := (HI.out.bars.below HBB.out).nam hx0
              have HX := Lib.hid hx0
              clear hx0
              rw [hA] at hb3'
              clear hA
              by_cases hbad : x.num < 1 ∨ 65535 < x.num
              · have hfin := Lib.hid (check_bar HP.out HS6.out (i := j) (by rw [HSB.out, drop_at HX.out, scanB, if_pos hbad]))
                have d0 : wb.cell? ⟨w.heap.size + 1, 0, none⟩ = some (.int .i64 0) := hrb.cell 0
                have d1 : wb.cell? ⟨w.heap.size + 1, 1, none⟩ = some (.int .i64 0) := hrb.cell 1
                have d2 : wb.cell? ⟨w.heap.size + 1, 2, none⟩ = some (.int .i64 0) := hrb.cell 2
                have hl3 : w.heap.size + 1 < wb.heap.size := hrb.lt
                have e0 := hrb.frozen 0
                have e1 := hrb.frozen 1
                have e2 := hrb.frozen 2
                have h3 : x.num < 1 ∨ 1 ≤ x.num ∧ 65535 < x.num := by omega
                clear hbad
                rcases h3 with h1 | ⟨h1, h2⟩
                all_goals
                  have hbx := HBB.out
                  go_wp2_with fail
                  try simp only [Exit.inBlock, Exit.then]
                  refine bodyPost_ret (v := Spot.val ⟨113, 4, j, 0⟩) ?_ rfl ?_
                  · refine results_tmp_cell (t := 2) (p := 3) rfl _ _ (w.heap.size + 1) 32 #[.int .i64 4, .int .i64 j, .int .i64 0] (0, 0) _ (by rfl) (by first | exact ((hrb.set_ 0 _).set_ 1 _).set_ 2 _ | exact (((hrb.set_ 0 _).set_ 1 _).set_ 2 _).alloc _ | exact (((hrb.set_ 0 _).set_ 1 _).set_ 2 _).drew | exact ((((hrb.set_ 0 _).set_ 1 _).set_ 2 _).alloc _).drew) Tryd.underlying32 rfl size_spot
                  exact ⟨(congrArg (fun s => Ending.returned (Spot.val s)) hfin.out).symm, by repeat' (first | (with_reducible exact Below.refl _ _) | (with_reducible assumption) | (with_reducible refine below_drewN ?_ _) | (with_reducible refine Below.drew ?_) | (with_reducible refine Below.alloc ?_ ?_ _) | (with_reducible refine Below.setCell ?_ ?_ _) | go_size)⟩
              · have h1 : 1 ≤ x.num := by omega
                have h2 : x.num ≤ 65535 := by omega
                have HBAD := Lib.hid hbad
                clear hbad
                go_wp2_with fail
                go_roundw
                case rel => exact ⟨j + 1, by omega, by go_num, by rw [HSB.out, drop_at HX.out, scanB, if_neg HBAD.out], hb5⟩
                case measure => simp [intOf]; omega
            · obtain rfl : j = p.bars.length := by omega
              have hBS : Hid (scanB p.bars 0 = none) := by
                show _ = _
                rw [HSB.out, List.drop_of_length_le (Nat.le_refl _)]
                rfl
              clear hj hjl
              go_wp2_with fail
              clear hb3' hlx
              go_loopw [12, 13] (fun s i wq => ∃ j sum : Nat, j ≤ p.threads.length ∧ i = .int .i64 j ∧ s = .int .i64 sum ∧ sum ≤ 262144 ∧ scanT p.cnt p.threads 0 0 = scanT p.cnt (p.threads.drop j) j sum ∧ Below wb.heap.size wb wq) (fun s i _ => p.threads.length - (intOf i).toNat)
              case atStart => exact ⟨0, 0, by omega, rfl, rfl, by omega, rfl, Below.refl _ _⟩
              case round =>
                obtain ⟨j, sum, hj, rfl, rfl, hsum, hst, hb6⟩ := hrel
                have HST := Lib.hid hst; clear hst
                have hwc := hb6.size
                have HBC := Lib.hid (HBB.out.trans (hb6.mono (by omega)))
                obtain ⟨wc, rfl⟩ : ∃ x : World, x = wr := ⟨_, rfl⟩
                have hboxc := Lib.hid (hboxb.out.below hb6 (by omega))
                have hrc := hrb.below hb6 (by omega)
                have hblc := hblb.out.below hb6 (by omega)
                have d4 : wc.cell? ⟨w.heap.size, 4, none⟩ = some (.slice p.At p.threads.length p.ct) := hboxc.out.cell 4
                have hlx : w.heap.size < wc.heap.size := by omega
                have k0 : wc.cell? ⟨w.heap.size + 1 + 1, 0, none⟩ = some (.int .i64 (p.cnt 0 : Int)) := hblc.cell 0
                have k1 : wc.cell? ⟨w.heap.size + 1 + 1, 1, none⟩ = some (.int .i64 (p.cnt 1 : Int)) := hblc.cell 1
                have k2 : wc.cell? ⟨w.heap.size + 1 + 1, 2, none⟩ = some (.int .i64 (p.cnt 2 : Int)) := hblc.cell 2
                have k3 : wc.cell? ⟨w.heap.size + 1 + 1, 3, none⟩ = some (.int .i64 (p.cnt 3 : Int)) := hblc.cell 3
                have k4 : wc.cell? ⟨w.heap.size + 1 + 1, 4, none⟩ = some (.int .i64 (p.cnt 4 : Int)) := hblc.cell 4
                have k5 : wc.cell? ⟨w.heap.size + 1 + 1, 5, none⟩ = some (.int .i64 (p.cnt 5 : Int)) := hblc.cell 5
                by_cases hjl : j < p.threads.length
                · obtain ⟨x, hx0⟩ := get_some hjl
                  obtain ⟨g, off, hA, hgB, r0, r1, r2⟩ := (HI.out.threads.below HBC.out).thr hx0
                  have HX := Lib.hid hx0
                  clear hx0
                  rw [hA] at d4
                  clear hA
                  have h40 : x.code.length * 40 ≤ 140737488355328 := (HF.out.fthreads _ (get_mem HX.out)).code
                  by_cases hbad : x.code.length = 0 ∨ 4096 < x.code.length ∨ 262144 < sum + x.code.length
                  · have hfin := Lib.hid (check_thr HP.out HS6.out hBS.out (e := 114) (i := j) (a := 0) (by rw [HST.out, drop_at HX.out, scanT, if_pos hbad]))
                    have d0 : wc.cell? ⟨w.heap.size + 1, 0, none⟩ = some (.int .i64 0) := hrc.cell 0
                    have d1 : wc.cell? ⟨w.heap.size + 1, 1, none⟩ = some (.int .i64 0) := hrc.cell 1
                    have d2 : wc.cell? ⟨w.heap.size + 1, 2, none⟩ = some (.int .i64 0) := hrc.cell 2
                    have hl3 : w.heap.size + 1 < wc.heap.size := hrc.lt
                    have e0 := hrc.frozen 0
                    have e1 := hrc.frozen 1
                    have e2 := hrc.frozen 2
                    have hbx := HBC.out
                    have h3 : (x.code.length : Int) < 1 ∨ (1 : Int) ≤ x.code.length ∧ (4096 : Int) < x.code.length ∨ (1 : Int) ≤ x.code.length ∧ (x.code.length : Int) ≤ 4096 ∧ (262144 : Int) < sum + x.code.length := by omega
                    clear hbad
                    rcases h3 with h1 | ⟨h1, h2⟩ | ⟨h1, h2, h3⟩
                    all_goals
                      go_wp2_with fail
                      try simp only [Exit.inBlock, Exit.then]
                      refine bodyPost_ret (v := Spot.val ⟨114, 5, j, 0⟩) ?_ rfl ?_
                      · refine results_tmp_cell (t := 2) (p := 3) rfl _ _ (w.heap.size + 1) 32 #[.int .i64 5, .int .i64 j, .int .i64 0] (0, 0) _ (by rfl) (by first | exact ((hrc.set_ 0 _).set_ 1 _).set_ 2 _ | exact (((hrc.set_ 0 _).set_ 1 _).set_ 2 _).alloc _ | exact (((hrc.set_ 0 _).set_ 1 _).set_ 2 _).drew | exact ((((hrc.set_ 0 _).set_ 1 _).set_ 2 _).alloc _).drew) Tryd.underlying32 rfl size_spot
                      exact ⟨(congrArg (fun s => Ending.returned (Spot.val s)) hfin.out).symm, by repeat' (first | (with_reducible exact Below.refl _ _) | (with_reducible assumption) | (with_reducible refine below_drewN ?_ _) | (with_reducible refine Below.drew ?_) | (with_reducible refine Below.alloc ?_ ?_ _) | (with_reducible refine Below.setCell ?_ ?_ _) | go_size)⟩
                  · have HBAD := Lib.hid hbad
                    have hlc : 1 ≤ x.code.length := by omega
                    have h1 : (1 : Int) ≤ x.code.length := by omega
                    have h2 : (x.code.length : Int) ≤ 4096 := by omega
                    have h3 : (sum : Int) + x.code.length ≤ 262144 := by omega
                    clear hbad
                    obtain ⟨er, at_, hr⟩ : ∃ er at_, threadR x p.cnt = (er, at_) := ⟨_, _, rfl⟩
                    have HR := Lib.hid hr; clear hr
                    have HIN := Lib.hid (((HI.out.thr _ (get_mem HX.out)).below HBC.out))
                    go_wp2_with fail
                    have hbd : Below wb.heap.size wb wc.drew := hb6.drew
                    have hrd : Blk wc.drew (w.heap.size + 1) 32 #[.int .i64 0, .int .i64 0, .int .i64 0] := hrc
                    have hind : x.In wc.drew w.heap.size := HIN.out.below ((Below.refl _ _).drew)
                    have hbwd : Below w.heap.size w wc.drew := HBC.out.drew
                    have HDD := Lib.hid (And.intro hbd (And.intro hrd (And.intro hind hbwd)))
                    clear hbd hrd hind hbwd
                    by_cases her : er = 0
                    · subst her
                      go_region_with (go_at_call 30; refine (refThread_any x _ w.heap.size p.cnt HDD.out.2.2.2.size HDD.out.2.2.1 (HF.out.fthreads _ (get_mem HX.out)) hlc).mono ?_; rintro e w9 ⟨rfl, hb11⟩; rw [HR.out]; unfold pairV)
                      all_goals
                        go_wp2_with fail
                        go_roundw
                        case rel =>
                          refine ⟨j + 1, sum + x.code.length, by omega, by go_num, by go_num, by omega, ?_, HDD.out.1.trans (hb11.mono HDD.out.1.size)⟩
                          rw [HST.out, drop_at HX.out, scanT, if_neg HBAD.out, HR.out]
                          exact if_pos rfl
                        case measure => simp [intOf]; omega
                    · have her1 : (er != 0) = true := by rw [bne_iff_ne]; exact her
                      have hfin := Lib.hid (check_thr HP.out HS6.out hBS.out (e := er) (i := j) (a := at_) (by rw [HST.out, drop_at HX.out, scanT, if_neg HBAD.out, HR.out]; exact if_neg her))
                      clear her
                      go_region_with (go_at_call 30; refine (refThread_any x _ w.heap.size p.cnt HDD.out.2.2.2.size HDD.out.2.2.1 (HF.out.fthreads _ (get_mem HX.out)) hlc).mono ?_; rintro e w9 ⟨rfl, hb11⟩; rw [HR.out]; unfold pairV; have hr9 := HDD.out.2.1.below hb11 HDD.out.2.1.lt; have hB9 := HDD.out.2.2.2.trans (hb11.mono HDD.out.2.2.2.size); have d0 : w9.cell? ⟨w.heap.size + 1, 0, none⟩ = some (.int .i64 0) := hr9.cell 0; have d1 : w9.cell? ⟨w.heap.size + 1, 1, none⟩ = some (.int .i64 0) := hr9.cell 1; have d2 : w9.cell? ⟨w.heap.size + 1, 2, none⟩ = some (.int .i64 0) := hr9.cell 2; have hl3 : w.heap.size + 1 < w9.heap.size := hr9.lt; have e0 := hr9.frozen 0; have e1 := hr9.frozen 1; have e2 := hr9.frozen 2)
                      all_goals
                        go_wp2_with fail
                        try simp only [Exit.inBlock, Exit.then]
                        refine bodyPost_ret (v := Spot.val ⟨er, 5, j, at_⟩) ?_ rfl ?_
                        · refine results_tmp_cell (t := 2) (p := 3) rfl _ _ (w.heap.size + 1) 32 #[.int .i64 5, .int .i64 j, .int .i64 at_] (0, 0) _ (by rfl) (by first | exact ((hr9.set_ 0 _).set_ 1 _).set_ 2 _ | exact (((hr9.set_ 0 _).set_ 1 _).set_ 2 _).alloc _ | exact (((hr9.set_ 0 _).set_ 1 _).set_ 2 _).drew | exact ((((hr9.set_ 0 _).set_ 1 _).set_ 2 _).alloc _).drew) Tryd.underlying32 rfl size_spot
                        exact ⟨(congrArg (fun s => Ending.returned (Spot.val s)) hfin.out).symm, by repeat' (first | (with_reducible exact Below.refl _ _) | (with_reducible assumption) | (with_reducible refine below_drewN ?_ _) | (with_reducible refine Below.drew ?_) | (with_reducible refine Below.alloc ?_ ?_ _) | (with_reducible refine Below.setCell ?_ ?_ _) | go_size)⟩
                · obtain rfl : j = p.threads.length := by omega
                  have hfin := Lib.hid (check_ok HP.out HS6.out hBS.out (by rw [HST.out, List.drop_of_length_le (Nat.le_refl _)]; rfl))
                  have d0 : wc.cell? ⟨w.heap.size + 1, 0, none⟩ = some (.int .i64 0) := hrc.cell 0
                  have d1 : wc.cell? ⟨w.heap.size + 1, 1, none⟩ = some (.int .i64 0) := hrc.cell 1
                  have d2 : wc.cell? ⟨w.heap.size + 1, 2, none⟩ = some (.int .i64 0) := hrc.cell 2
                  have hl3 : w.heap.size + 1 < wc.heap.size := hrc.lt
                  have e0 := hrc.frozen 0
                  have e1 := hrc.frozen 1
                  have e2 := hrc.frozen 2
                  have hbx := HBC.out
                  clear hj hjl
                  go_wp2_with fail
                  try simp only [Exit.inBlock, Exit.then]
                  refine bodyPost_ret (v := Spot.val ⟨0, 0, 0, 0⟩) ?_ rfl ?_
                  · refine results_tmp_cell (t := 2) (p := 3) rfl _ _ (w.heap.size + 1) 32 #[.int .i64 0, .int .i64 0, .int .i64 0] (0, 0) _ (by rfl) (by first | exact ((hrc.set_ 0 _).set_ 1 _).set_ 2 _ | exact (((hrc.set_ 0 _).set_ 1 _).set_ 2 _).alloc _ | exact (((hrc.set_ 0 _).set_ 1 _).set_ 2 _).drew | exact ((((hrc.set_ 0 _).set_ 1 _).set_ 2 _).alloc _).drew) Tryd.underlying32 rfl size_spot
                  exact ⟨(congrArg (fun s => Ending.returned (Spot.val s)) hfin.out).symm, by repeat' (first | (with_reducible exact Below.refl _ _) | (with_reducible assumption) | (with_reducible refine below_drewN ?_ _) | (with_reducible refine Below.drew ?_) | (with_reducible refine Below.alloc ?_ ?_ _) | (with_reducible refine Below.setCell ?_ ?_ _) | go_size)⟩
end Go.Proofs.YtknnbckmdfnmaaaDoor
