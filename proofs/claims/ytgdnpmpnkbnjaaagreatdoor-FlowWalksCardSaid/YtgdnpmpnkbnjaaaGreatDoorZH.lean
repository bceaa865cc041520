/- Contract of (*bits.Set).All$1, the iterator: it hands the numbers of the set in order. Conditions: the captured words are there; a round keeps what lay below B; deBruijn64tab is laid. Contract of (*bits.Set).All$1 once more, for a round that keeps what the iterator reads, and may write elsewhere. Conditions: as there. -/
import Derived.Test.YtgdnpmpnkbnjaaaGreatDoorZF
import Derived.Test.YtgdnpmpnkbnjaaaGreatDoorZA
import Derived.RangeFuncNested
import Derived.RangeFuncBound
import Derived.RangeFuncCalls
import Derived.RangeFuncLeaves
import Derived.Shelf.Abstract
import Derived.Shelf.RegionOpen
import Derived.WalkKit
import Derived.OwnWalkIn
import Derived.TacticsInMore
import Derived.LoopNIn
import Derived.LoopIn
namespace Go.Proofs.YtgdnpmpnkbnjaaaGreatDoor
open Go.RowKit Go.Shelf
attribute [local go_sem] Oper.semAt_some

/-- the numbers of S below m, in order -/
def upTo (S m : Nat) : List Nat := (List.range m).filter fun k => S.testBit k
theorem upTo_hit {S m q : Nat} (h1 : m ≤ q) (h2 : S.testBit q = true) (h3 : ∀ k, m ≤ k → k < q → S.testBit k = false) : upTo S (q + 1) = upTo S m ++ [q] := by
  have h : ∀ d, m + d ≤ q → upTo S (m + d) = upTo S m := by
    intro d
    induction d with
    | zero => intro _; rfl
    | succ d ih =>
      intro hd
      rw [← ih (by omega)]
      show (List.range (m + d + 1)).filter _ = _
      rw [List.range_succ, List.filter_append]
      have := h3 (m + d) (by omega) (by omega)
      simp [upTo, this]
  have hq := h (q - m) (by omega)
  rw [show m + (q - m) = q by omega] at hq
  rw [← hq]
  show (List.range (q + 1)).filter _ = _
  rw [List.range_succ, List.filter_append]
  simp [upTo, h2]
theorem upTo_end {S m : Nat} (h : ∀ k, m ≤ k → S.testBit k = false) : upTo S m = listM S :=
  (listM_bound S m fun k hk => by
    rcases Nat.lt_or_ge k m with h1 | h1
    · exact h1
    · rw [h k h1] at hk; cases hk).symm
theorem upTo_pre (S : Nat) {m m' : Nat} (h : m ≤ m') : upTo S m <+: upTo S m' := by
  obtain ⟨d, rfl⟩ : ∃ d, m' = m + d := ⟨m' - m, by omega⟩
  clear h
  induction d with
  | zero => exact List.prefix_refl _
  | succ d ih =>
    refine ih.trans ?_
    show upTo S (m + d) <+: (List.range (m + d + 1)).filter _
    rw [List.range_succ, List.filter_append]
    exact List.prefix_append _ _
theorem upTo_list (S m : Nat) : upTo S m <+: listM S := by
  have h : ∀ k, S.testBit k = true → k < max m (S.log2 + 1) := by
    intro k hk
    have := (listM_mem S k).2 hk
    unfold listM at this
    have h2 := List.mem_range.1 (List.mem_filter.1 this).1
    omega
  rw [listM_bound S _ h]
  exact upTo_pre S (Nat.le_max_left _ _)
theorem upTo_len {S m q : Nat} (h1 : m ≤ q) (h2 : S.testBit q = true) (h3 : ∀ k, m ≤ k → k < q → S.testBit k = false) : (upTo S m).length < (listM S).length := by
  have h := (upTo_list S (q + 1)).length_le
  rw [upTo_hit h1 h2 h3] at h
  simp at h
  omega
theorem IterAt.keep {base bx c B : Nat} {A : Option Addr} {ws : List Nat} {w w' : World} (h : IterAt base bx A c ws w) (hb : Below B w w') (h1 : bx < B) (h2 : ∀ k, A.map (·.block) = some k → k < B) : IterAt base bx A c ws w' :=
  ⟨h.1, h.2.1.below hb h1, own_foot h.2.2 (Foot.of_below hb) fun k hk => by rw [ownBlock_sl] at hk; have := h2 k hk; omega⟩
theorem Tab.keep {B : Nat} {w w' : World} (h : Tab w) (hb : Below B w w') (h1 : 0 < B) : Tab w' := fun j hj => (hb.cell (p := ⟨_, j, none⟩) h1).trans (h j hj)
theorem Rep.lt_bit {ws : List Nat} {S k : Nat} (h : Rep ws S) (hk : S.testBit k = true) : k < 1048576 := by
  rcases Nat.lt_or_ge k 1048576 with h1 | h1
  · exact h1
  · have := h.out k (by have := h.len; omega)
    rw [this] at hk; cases hk
set_option maxRecDepth 100000 in
set_option maxHeartbeats 2000000 in
theorem all1_in (n : Nat) (hn : 1 ≤ n) {base bx c S B l : Nat} {A : Option Addr} {ws : List Nat} (J Jx : List Nat → World → Prop) (hr : Rep ws S) (h1 : bx < B) (h2 : ∀ k, A.map (·.block) = some k → k < B)
    (hY : ∀ (pre : List Nat) (x : Nat) (W : World), J pre W → pre.length < (listM S).length → YieldAt Fence.wide (n - 1) Tryz.prog l #[.int .i64 (x : Int)] W fun e W' =>
      (e = .returned (.bool true) ∧ J (pre ++ [x]) W' ∧ Below B W W') ∨ (e = .returned (.bool false) ∧ Jx (pre ++ [x]) W'))
    (W : World) (hI : IterAt base bx A c ws W) (hT : Tab W) (h0 : J [] W) :
    CallsIn Fence.wide n Tryz.prog 32 #[.func (.yield l) #[] #[], .pointer (some ⟨bx, 0, none⟩)] W fun e W' => (∃ v, e = .returned v) ∧
      ((∃ ys, ys = listM S ∧ J ys W') ∨ (∃ pre, pre <+: listM S ∧ Jx pre W')) := by
  refine callsIn_of_wp Tryz.func32 rfl trivial ?_ rfl
  simp only [Tryz.ntmps32, List.size_toArray, List.length_cons, List.length_nil, Nat.reduceAdd, Nat.reduceSub, Array.replicate_succ, Array.replicate_zero, List.push_toArray, List.append_toArray, List.nil_append, List.cons_append]
  have hc := hI.2.1.cell 0
  have HI := Lib.hid hI
  have HT := Lib.hid hT
  have HR := Lib.hid hr
  clear hI hT hr
  gi_wp2_with (refine ⟨trivial, ?_⟩; gi_at_call 33; refine (callsIn_wide.2 (next_words 0 _ HI.out.words HR.out (by omega) HT.out)).mono ?_; rintro e w' ⟨r, rfl, hr, rfl⟩)
  gi_loopw [3] (fun s wr => ∃ (r : Int) (m : Nat), s = .int .i64 r ∧ NextIs S m r ∧ J (upTo S m) wr ∧ IterAt base bx A c ws wr ∧ Tab wr ∧ m ≤ 1048576) (fun s wr => if intOf s < 0 then 0 else 1048577 - (intOf s).toNat)
  case atStart => exact ⟨r, 0, rfl, hr, h0, HI.out, HT.out, by omega⟩
  case round =>
    obtain ⟨r, m, rfl, hr, hJ, hI, hT, hm⟩ := hrel
    rcases hr with ⟨rfl, hz⟩ | ⟨q, rfl, hq1, hq2, hq3⟩
    · have hup := upTo_end hz
      have HU := Lib.hid hup
      clear hup
      gi_wp2
      go_end0
      exact ⟨⟨_, rfl⟩, .inl ⟨_, rfl, HU.out ▸ hJ⟩⟩
    · have hlen := upTo_len hq1 hq2 hq3
      have hhit := Lib.hid (upTo_hit hq1 hq2 hq3)
      have hql := HR.out.lt_bit hq2
      obtain ⟨fn, tmps, assign, body, hy, hRd⟩ := hY _ q wr hJ hlen
      have hpre := Lib.hid (upTo_list S (q + 1))
      have HIr := Lib.hid hI
      have HTr := Lib.hid hT
      have hq0 : (0 : Int) ≤ (q : Int) := by omega
      clear hI hT hlen hq1 hq2 hq3
      gi_wp2
      refine hRd.mono ?_
      rintro e W3 (⟨rfl, hJ3, hk3⟩ | ⟨rfl, hJx3⟩)
      · have HI3 := Lib.hid (HIr.out.keep hk3 h1 h2)
        have HT3 := Lib.hid (HTr.out.keep hk3 (by omega))
        have hc3 := HI3.out.2.1.cell 0
        gi_wp2_with (refine ⟨trivial, ?_⟩; gi_at_call 33; refine (callsIn_wide.2 (next_words (q + 1) _ HI3.out.words HR.out (by omega) HT3.out)).mono ?_; rintro e w' ⟨r, rfl, hr, rfl⟩)
        go_roundw
        case rel => exact ⟨r, q + 1, rfl, hr, by rw [hhit.out]; exact hJ3, HI3.out, HT3.out, by omega⟩
        case measure =>
          rcases hr with ⟨rfl, hz⟩ | ⟨q', rfl, hq1, hq2, hq3⟩
          · show (if (-1 : Int) < 0 then 0 else 1048577 - (-1 : Int).toNat) < (if (q : Int) < 0 then 0 else 1048577 - (q : Int).toNat)
            rw [if_pos (by decide), if_neg (by omega)]
            omega
          · have := HR.out.lt_bit hq2
            show (if (q' : Int) < 0 then 0 else 1048577 - (q' : Int).toNat) < (if (q : Int) < 0 then 0 else 1048577 - (q : Int).toNat)
            rw [if_neg (by omega), if_neg (by omega)]
            omega
      · gi_wp2
        refine bodyPost_ret (results_none rfl _ _ _) rfl ?_
        exact ⟨⟨_, rfl⟩, .inr ⟨_, hpre.out, hhit.out ▸ hJx3⟩⟩
end Go.Proofs.YtgdnpmpnkbnjaaaGreatDoor
namespace Go.Proofs.YtgdnpmpnkbnjaaaGreatDoor
open Go.RowKit Go.Shelf
attribute [local go_sem] Oper.semAt_some

set_option maxRecDepth 100000 in
set_option maxHeartbeats 2000000 in
theorem all1_at (n : Nat) (hn : 1 ≤ n) {base bx c S l : Nat} {A : Option Addr} {ws : List Nat} (Kp : World → World → Prop) (J Jx : List Nat → World → Prop) (hr : Rep ws S) (hk1 : ∀ W W', Kp W W' → IterAt base bx A c ws W → IterAt base bx A c ws W') (hk2 : ∀ W W', Kp W W' → Tab W → Tab W')
    (hY : ∀ (pre : List Nat) (x : Nat) (W : World), J pre W → pre.length < (listM S).length → S.testBit x = true → YieldAt Fence.wide (n - 1) Tryz.prog l #[.int .i64 (x : Int)] W fun e W' =>
      (e = .returned (.bool true) ∧ J (pre ++ [x]) W' ∧ Kp W W') ∨ (e = .returned (.bool false) ∧ Jx (pre ++ [x]) W'))
    (W : World) (hI : IterAt base bx A c ws W) (hT : Tab W) (h0 : J [] W) :
    CallsIn Fence.wide n Tryz.prog 32 #[.func (.yield l) #[] #[], .pointer (some ⟨bx, 0, none⟩)] W fun e W' => (∃ v, e = .returned v) ∧
      ((∃ ys, ys = listM S ∧ J ys W') ∨ (∃ pre, pre <+: listM S ∧ Jx pre W')) := by
  refine callsIn_of_wp Tryz.func32 rfl trivial ?_ rfl
  simp only [Tryz.ntmps32, List.size_toArray, List.length_cons, List.length_nil, Nat.reduceAdd, Nat.reduceSub, Array.replicate_succ, Array.replicate_zero, List.push_toArray, List.append_toArray, List.nil_append, List.cons_append]
  have hc := hI.2.1.cell 0
  have HI := Lib.hid hI
  have HT := Lib.hid hT
  have HR := Lib.hid hr
  clear hI hT hr
  gi_wp2_with (refine ⟨trivial, ?_⟩; gi_at_call 33; refine (callsIn_wide.2 (next_words 0 _ HI.out.words HR.out (by omega) HT.out)).mono ?_; rintro e w' ⟨r, rfl, hr, rfl⟩)
  gi_loopw [3] (fun s wr => ∃ (r : Int) (m : Nat), s = .int .i64 r ∧ NextIs S m r ∧ J (upTo S m) wr ∧ IterAt base bx A c ws wr ∧ Tab wr ∧ m ≤ 1048576) (fun s wr => if intOf s < 0 then 0 else 1048577 - (intOf s).toNat)
  case atStart => exact ⟨r, 0, rfl, hr, h0, HI.out, HT.out, by omega⟩
  case round =>
    obtain ⟨r, m, rfl, hr, hJ, hI, hT, hm⟩ := hrel
    rcases hr with ⟨rfl, hz⟩ | ⟨q, rfl, hq1, hq2, hq3⟩
    · have hup := upTo_end hz
      have HU := Lib.hid hup
      clear hup
      gi_wp2
      go_end0
      exact ⟨⟨_, rfl⟩, .inl ⟨_, rfl, HU.out ▸ hJ⟩⟩
    · have hlen := upTo_len hq1 hq2 hq3
      have hhit := Lib.hid (upTo_hit hq1 hq2 hq3)
      have hql := HR.out.lt_bit hq2
      obtain ⟨fn, tmps, assign, body, hy, hRd⟩ := hY _ q wr hJ hlen hq2
      have hpre := Lib.hid (upTo_list S (q + 1))
      have HIr := Lib.hid hI
      have HTr := Lib.hid hT
      have hq0 : (0 : Int) ≤ (q : Int) := by omega
      clear hI hT hlen hq1 hq2 hq3
      gi_wp2
      refine hRd.mono ?_
      rintro e W3 (⟨rfl, hJ3, hk3⟩ | ⟨rfl, hJx3⟩)
      · have HI3 := Lib.hid (hk1 _ _ hk3 HIr.out)
        have HT3 := Lib.hid (hk2 _ _ hk3 HTr.out)
        have hc3 := HI3.out.2.1.cell 0
        gi_wp2_with (refine ⟨trivial, ?_⟩; gi_at_call 33; refine (callsIn_wide.2 (next_words (q + 1) _ HI3.out.words HR.out (by omega) HT3.out)).mono ?_; rintro e w' ⟨r, rfl, hr, rfl⟩)
        go_roundw
        case rel => exact ⟨r, q + 1, rfl, hr, by rw [hhit.out]; exact hJ3, HI3.out, HT3.out, by omega⟩
        case measure =>
          rcases hr with ⟨rfl, hz⟩ | ⟨q', rfl, hq1, hq2, hq3⟩
          · show (if (-1 : Int) < 0 then 0 else 1048577 - (-1 : Int).toNat) < (if (q : Int) < 0 then 0 else 1048577 - (q : Int).toNat)
            rw [if_pos (by decide), if_neg (by omega)]
            omega
          · have := HR.out.lt_bit hq2
            show (if (q' : Int) < 0 then 0 else 1048577 - (q' : Int).toNat) < (if (q : Int) < 0 then 0 else 1048577 - (q : Int).toNat)
            rw [if_neg (by omega), if_neg (by omega)]
            omega
      · gi_wp2
        refine bodyPost_ret (results_none rfl _ _ _) rfl ?_
        exact ⟨⟨_, rfl⟩, .inr ⟨_, hpre.out, hhit.out ▸ hJx3⟩⟩
/-- blocks that stay as they are -/
structure KeepB (P : Nat → Prop) (W W' : World) : Prop where
  size : W.heap.size ≤ W'.heap.size
  same : ∀ i, P i → i < W.heap.size → W'.heap[i]? = W.heap[i]?
theorem KeepB.refl (P : Nat → Prop) (W : World) : KeepB P W W := ⟨Nat.le_refl _, fun _ _ _ => rfl⟩
theorem KeepB.trans {P : Nat → Prop} {A B C : World} (h : KeepB P A B) (k : KeepB P B C) : KeepB P A C :=
  ⟨Nat.le_trans h.size k.size, fun i hi hl => (k.same i hi (Nat.lt_of_lt_of_le hl h.size)).trans (h.same i hi hl)⟩
theorem KeepB.of_foot {P Q : Nat → Prop} {W W' : World} (h : Foot Q W W') (hn : ∀ i, P i → ¬ Q i) : KeepB P W W' := ⟨h.size, fun i hi hl => h.block i hl (hn i hi)⟩
theorem own_same {w w' : World} {base : Nat} {e : TypeId} {size n : Nat} {v : Value} {xs : List Value} (h : w.ownsRow base e size v n xs) (hg : ∀ k, v.ownBlock = some k → w'.heap[k]? = w.heap[k]?) : w'.ownsRow base e size v n xs := by
  refine ⟨h.1, ?_⟩
  rcases h.2 with hn | ⟨g, cap, cur, rfl, h2, h3, h4⟩
  · exact .inl hn
  · exact .inr ⟨g, cap, cur, rfl, h2, (hg g rfl).trans h3, h4⟩
/-- what an iterator reads -/
def IterB (bx : Nat) (A : Option Addr) (i : Nat) : Prop := i = bx ∨ A.map (·.block) = some i ∨ i = 0
theorem IterAt.keepB {base bx c : Nat} {A : Option Addr} {ws : List Nat} {W W' : World} (hk : KeepB (IterB bx A) W W') (h : IterAt base bx A c ws W) : IterAt base bx A c ws W' :=
  ⟨h.1, (hk.same bx (.inl rfl) h.2.1.lt).trans h.2.1, own_same h.2.2 fun k hk' => hk.same k (.inr (.inl (by rw [← ownBlock_sl]; exact hk'))) (h.2.2.lt k hk').2⟩
end Go.Proofs.YtgdnpmpnkbnjaaaGreatDoor
