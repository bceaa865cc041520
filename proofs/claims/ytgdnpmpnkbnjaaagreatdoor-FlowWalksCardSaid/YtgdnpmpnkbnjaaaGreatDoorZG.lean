/- Contracts of slices.AppendSeq, slices.Collect over a set's iterator, and of (*bits.Set).List. Contracts of slices.Collect over a set's iterator, and of (*bits.Set).List: the set's numbers in order, in a row of the call's own. Contract of (*bits.Set).Keep. Conditions: both sets are there, they share no block. How Len tells whether a set has turned: plain. No condition. Plain words for a work list: a set closed under ways on; a set's number read out of memory (a measure for loops). No condition. Plain words for flow.held: sets of locks ahead of each instruction, put together by a meet; what the passes keep, and what is so at their end. No condition. Words for (*bits.Set).Join. Plain. No condition. Contract of (*bits.Set).Join with one other. Conditions: both sets are there, they share no block; the other's pointer lies in the row. -/
import Derived.Test.YtgdnpmpnkbnjaaaGreatDoorZH
import Derived.RangeFuncBox
import Derived.Maps.AppendAt
namespace Go.Proofs.YtgdnpmpnkbnjaaaGreatDoor
open Go.RowKit Go.Shelf
attribute [local go_sem] Oper.semAt_some

theorem listM_len {ws : List Nat} {S : Nat} (h : Rep ws S) : (listM S).length ≤ 1048576 := by
  rw [listM_bound S 1048576 fun k hk => h.lt_bit hk]
  exact Nat.le_trans (List.length_filter_le _ _) (by simp)
def encN1 (x : Nat) : Value := .int .i64 (x : Int)
theorem info_int : (Tryz.prog.info? 3).map (fun i => (i.zero, i.size, i.bytes)) = some (some (.int .i64 0), 1, 8) := by kernel_rfl
set_option maxRecDepth 100000 in
set_option maxHeartbeats 2000000 in
theorem appendSeq_set (n : Nat) (hn : 3 ≤ n) {base bx c S : Nat} {A : Option Addr} {ws : List Nat} (w : World) (hI : IterAt base bx A c ws w) (hr : Rep ws S) (hT : Tab w) :
    CallsIn Fence.wide n Tryz.prog 62 #[.slice none 0 0, .func (.func 32) #[] #[.pointer (some ⟨bx, 0, none⟩)]] w fun e W' =>
      ∃ v, e = .returned v ∧ W'.ownsRow w.heap.size 3 1 v (listM S).length ((listM S).map encN1) ∧ (v = .slice none 0 0 ↔ listM S = []) ∧ Below w.heap.size w W' := by
  have h1 : 1 ≤ n := by omega
  have hxl := hI.2.1.lt
  have hAl : ∀ k, A.map (·.block) = some k → k < w.heap.size := fun k hk => (hI.2.2.lt k (by rw [ownBlock_sl]; exact hk)).2
  have hlen := listM_len hr
  obtain ⟨i0, hi, hz0, hz1, hz2⟩ := info_parts info_int
  refine callsIn_of_wp_marks Tryz.func62 rfl trivial ?_ rfl
  simp only [Tryz.ntmps62, List.size_toArray, List.length_cons, List.length_nil, Nat.reduceAdd, Nat.reduceSub, Array.replicate_succ, Array.replicate_zero, List.push_toArray, List.append_toArray, List.nil_append, List.cons_append]
  gi_wp2
  have bO := Boxed.new w 28 (.slice none 0 0)
  have hB0 : Below w.heap.size w (w.alloc (.cells #[.slice none 0 0] 28)) := (Below.refl _ w).alloc (Nat.le_refl _) _
  have hIs : IterAt base bx A c ws (w.alloc (.cells #[.slice none 0 0] 28)) := hI.below hB0
  have hTs : Tab (w.alloc (.cells #[.slice none 0 0] 28)) := hT.keep hB0 (by omega)
  refine wpIn_rangeFunc_ownG (α := Nat) rfl h1 (gf := 32) (lb := #[.pointer (some ⟨bx, 0, none⟩)]) rfl trivial (enters_of Tryz.func32 (by kernel_rfl) rfl)
    (encs := fun x : Nat => #[Value.int .i64 (x : Int)]) (Kp := Below w.heap.size) (S := fun ys => ys = listM S) (Sp := fun pre => pre <+: listM S) (N := (listM S).length) (w0 := w.alloc (.cells #[.slice none 0 0] 28))
    (fun l J Jx W hW _ _ hY h0 => all1_in (n - 1) (by omega) J Jx hr hxl hAl hY W (hIs.below hW) (hTs.keep hW (by simp)) h0)
    belowK_t (belowK_b (by simp)) (Below.refl _ _) (fun _ => rfl)
    (fun pre W => (∃ v, Boxed W w.heap.size 28 v ∧ W.ownsRow w.heap.size 3 1 v pre.length (pre.map encN1) ∧ (v = .slice none 0 0 ↔ pre = [])) ∧ Below w.heap.size w W)
    (fun _ _ _ => False)
    (OwnFrom.and (Own.from (holdsRow_own w.heap.size w.heap.size 28 3 1 (fun pre : List Nat => pre.length) (fun pre => pre.map encN1) (fun pre v => v = .slice none 0 0 ↔ pre = [])) _) (ownFrom_below (Nat.le_refl _) (by simp)))
    (fun _ _ _ _ _ hs _ _ => hs)
    ⟨⟨_, bO, World.ownsRow_nil _ _ _ _, by simp⟩, hB0⟩
    (fun x => { tmps := #[.slice none 0 0, .func (.func 32) #[] #[.pointer (some ⟨bx, 0, none⟩)], .pointer (some ⟨w.heap.size, 0, none⟩), undef, .slice none 0 0, .int .i64 (x : Int), .func (.func 32) #[] #[.pointer (some ⟨bx, 0, none⟩)], .int .i64 (x : Int), undef, undef, undef, undef, undef], defers := [] }) ?assign ?body ?done ?stop
  case assign =>
    intro l x W K hK
    gi_wp2
    exact hK
  case body =>
    rintro l pre x W ⟨⟨v, hv, hrow, hnil⟩, hB⟩ hlt
    have hc := hv.cell
    gi_wp2_with (gi_at_builtin; refine wpListIn_append_own _ rfl _ _ 28 rfl w.heap.size 3 i0 (.int .i64 0) 1 8 Tryz.underlying28 hi hz0 hz1 hz2 rfl (by decide) _ _ _ rfl (hrow.alloc _) ⟨W.heap.size, 0, none⟩ 1 1 [encN1 x] rfl rfl (cell_one_new _ _ _) (by simp [Value.oneCell', encN1]) (by simp only [maxLen]; omega) (by omega) (by have := hB.size; simp; omega) ?_; intro v' w1 hown' hgrow _; obtain ⟨g', cap', rfl⟩ := ownsRow_succ hown'; obtain ⟨hv1, hv2, hr2, hk2, hb2⟩ := hv.appended (by decide) hrow hB.size (Nat.le_refl _) hown' hgrow; have hc1 := hv1.cell; have hf1 := hv1.frozen)
    exact ⟨hk2.from _, hb2, ⟨_, hv2, by simpa using hr2, by simp⟩, hB.trans hb2⟩
  case done =>
    rintro D ys W hD rfl ⟨⟨v, hv, hrow, hnil⟩, hB⟩ hK
    have hc := hv.cell
    gi_wp2
    refine ⟨by simp, .inl ⟨_, _, rfl, run_takeDeferred hK, ?_⟩⟩
    exact ⟨_, results_tmp rfl _ _ _, v, rfl, ownsRow_putObj hrow _ hK rfl, hnil, hB.trans (belowK_b (w := w) (Nat.le_refl _) W D _ _ (by simp at hD; omega) hK rfl rfl)⟩
  case stop =>
    rintro D c pre W _ _ h _
    exact h.elim
end Go.Proofs.YtgdnpmpnkbnjaaaGreatDoor
namespace Go.Proofs.YtgdnpmpnkbnjaaaGreatDoor
open Go.RowKit

set_option maxRecDepth 100000 in
set_option maxHeartbeats 2000000 in
theorem collect_set {base bx c S : Nat} {A : Option Addr} {ws : List Nat} (w : World) (hI : IterAt base bx A c ws w) (hr : Rep ws S) (hT : Tab w) :
    Calls Tryz.prog 52 #[.func (.func 32) #[] #[.pointer (some ⟨bx, 0, none⟩)]] w fun e W' =>
      ∃ v, e = .returned v ∧ W'.ownsRow w.heap.size 3 1 v (listM S).length ((listM S).map encN1) ∧ (v = .slice none 0 0 ↔ listM S = []) ∧ Below w.heap.size w W' := by
  go_enter Tryz.func52, Tryz.ntmps52
  go_wp2_with (go_at_call 62; refine ((callsIn_wide (n := 3)).1 (appendSeq_set 3 (by omega) w hI hr hT)).mono ?_; rintro e w' ⟨v, rfl, ho, hn, hb⟩; obtain ⟨A', c', rfl⟩ := own_form ho)
  go_ret
  exact ⟨_, rfl, ho, hn, hb⟩
set_option maxRecDepth 100000 in
set_option maxHeartbeats 2000000 in
theorem list_set {base b c S : Nat} {A : Option Addr} {ws : List Nat} (w : World) (h : SetAt w base b A c ws S) (hT : Tab w) (hw : 0 < w.heap.size) :
    Calls Tryz.prog 36 #[.pointer (some ⟨b, 0, none⟩)] w fun e W' =>
      ∃ v, e = .returned v ∧ W'.ownsRow w.heap.size 3 1 v (listM S).length ((listM S).map encN1) ∧ (v = .slice none 0 0 ↔ listM S = []) ∧ Below w.heap.size w W' := by
  have HH := Lib.hid h
  go_enter Tryz.func36, Tryz.ntmps36
  go_wp2_with first
    | (go_at_call 14; refine (all_set w HH.out).mono ?_; rintro e w1 ⟨bx, A1, c1, rfl, hI, hb1⟩)
    | (go_at_call 52; refine (collect_set _ hI HH.out.rep (hT.keep hb1 hw)).mono ?_; rintro e w2 ⟨v, rfl, ho, hn, hb2⟩; obtain ⟨A', c', rfl⟩ := own_form ho)
  go_ret
  exact ⟨_, rfl, own_base ho hb1.size, hn, hb1.trans (hb2.mono hb1.size)⟩
end Go.Proofs.YtgdnpmpnkbnjaaaGreatDoor
namespace Go.Proofs.YtgdnpmpnkbnjaaaGreatDoor
open Go.RowKit

/-- the number whose bits are those of the words -/
def numW : List Nat → Nat
  | [] => 0
  | x :: r => 2 ^ 64 * numW r + x
theorem numW_rep {ws : List Nat} (h : ∀ x ∈ ws, x < 18446744073709551616) (hl : ws.length ≤ 16384) : Rep ws (numW ws) := by
  refine ⟨h, ?_, hl⟩
  clear hl
  induction ws with
  | nil => intro k; simp [numW, wordBit]
  | cons x r ih =>
    intro k
    have hx : x < 2 ^ 64 := h x (by simp)
    show (2 ^ 64 * numW r + x).testBit k = _
    rw [Nat.testBit_two_pow_mul_add (numW r) hx k]
    unfold wordBit
    by_cases hk : k < 64
    · rw [if_pos hk, show k / 64 = 0 by omega, show k % 64 = k by omega]
      rfl
    · rw [if_neg hk, ih (fun y hy => h y (by simp [hy])) (k - 64)]
      unfold wordBit
      rw [show k / 64 = (k - 64) / 64 + 1 by omega, show k % 64 = (k - 64) % 64 by omega]
      rfl
/-- the first k words kept, of m -/
def mixW (ws wt : List Nat) (m k : Nat) : List Nat := (List.range m).map fun j => if j < k then ws.getD j 0 &&& wt.getD j 0 else ws.getD j 0
theorem mixW_len (ws wt : List Nat) (m k : Nat) : (mixW ws wt m k).length = m := by simp [mixW]
theorem mixW_get (ws wt : List Nat) {m k j : Nat} (h : j < m) : (mixW ws wt m k)[j]? = some (if j < k then ws.getD j 0 &&& wt.getD j 0 else ws.getD j 0) := by
  simp [mixW, h]
theorem mixW_zero (ws wt : List Nat) {m : Nat} (h : m ≤ ws.length) : mixW ws wt m 0 = ws.take m := by
  apply List.ext_getElem?
  intro j
  rcases Nat.lt_or_ge j m with hj | hj
  · rw [mixW_get ws wt hj, List.getElem?_take, if_pos hj, List.getD_eq_getElem?_getD]
    obtain ⟨x, hx⟩ := get_some (l := ws) (k := j) (by omega)
    simp [hx]
  · rw [List.getElem?_eq_none (by simp [mixW_len]; exact hj), List.getElem?_eq_none (by simp; omega)]
theorem mixW_step (ws wt : List Nat) {m k : Nat} (h : k < m) : (mixW ws wt m k).set k (ws.getD k 0 &&& wt.getD k 0) = mixW ws wt m (k + 1) := by
  apply List.ext_getElem?
  intro j
  rcases Nat.lt_or_ge j m with hj | hj
  · rw [mixW_get ws wt hj]
    by_cases e : k = j
    · subst e
      rw [List.getElem?_set_self (by rw [mixW_len]; exact h), if_pos (by omega)]
    · rw [List.getElem?_set_ne e, mixW_get ws wt hj]
      by_cases h2 : j < k
      · rw [if_pos h2, if_pos (by omega)]
      · rw [if_neg h2, if_neg (by omega)]
  · rw [List.getElem?_eq_none (by simp [mixW_len]; exact hj), List.getElem?_eq_none (by simp [mixW_len]; exact hj)]
theorem getD_lt {ws : List Nat} {S : Nat} (h : Rep ws S) (j : Nat) : ws.getD j 0 < 18446744073709551616 := by
  rw [List.getD_eq_getElem?_getD]
  rcases hx : ws[j]? with _ | x
  · simp
  · exact h.lt x (get_mem' hx)
theorem mixW_lt {ws wt : List Nat} {S m k : Nat} (h : Rep ws S) : ∀ x ∈ mixW ws wt m k, x < 18446744073709551616 := by
  intro x hx
  obtain ⟨j, _, rfl⟩ := List.mem_map.1 hx
  have h1 := getD_lt h j
  split
  · exact Nat.lt_of_le_of_lt Nat.and_le_left h1
  · exact h1
theorem mixW_rep {ws wt : List Nat} {S m : Nat} (k : Nat) (h : Rep ws S) (hm : m ≤ ws.length) : Rep (mixW ws wt m k) (numW (mixW ws wt m k)) :=
  numW_rep (mixW_lt h) (by rw [mixW_len]; have := h.len; omega)
theorem mixW_end {ws wt : List Nat} {S T m : Nat} (h : Rep ws S) (ht : Rep wt T) (hm : m = min ws.length wt.length) : Rep (mixW ws wt m m) (S &&& T) := by
  refine ⟨mixW_lt h, fun k => ?_, by rw [mixW_len]; have := h.len; omega⟩
  rw [Nat.testBit_and]
  unfold wordBit
  rcases Nat.lt_or_ge (k / 64) m with hk | hk
  · rw [List.getD_eq_getElem?_getD, mixW_get ws wt hk, if_pos hk, h.bit k, ht.bit k]
    unfold wordBit
    rw [Option.getD_some, Nat.testBit_and]
  · rw [List.getD_eq_getElem?_getD, List.getElem?_eq_none (by rw [mixW_len]; exact hk)]
    rcases Nat.lt_or_ge (k / 64) ws.length with h1 | h1
    · rw [ht.out k (by omega)]; simp
    · rw [h.out k h1]; simp
set_option maxRecDepth 100000 in
set_option maxHeartbeats 2000000 in
theorem keep_set {base bs b c S bt ct T : Nat} {A At : Option Addr} {ws wt : List Nat} (w : World) (h : SetAt w base b A c ws S) (ht : SetAt w bs bt At ct wt T) (hne : ∀ i, setBlks bt At i → ¬ setBlks b A i) :
    Calls Tryz.prog 40 #[.pointer (some ⟨b, 0, none⟩), .pointer (some ⟨bt, 0, none⟩)] w fun e w' => e = .returned (.int .i64 0) ∧ SetPost base b A (S &&& T) w w' := by
  have hl := h.box.lt
  have hlt := ht.box.lt
  have HH := Lib.hid h
  have HT := Lib.hid ht
  have HB := Lib.hid h.box
  have HBt := Lib.hid ht.box
  have hc1 : w.cell? ⟨b, 1, none⟩ = some (.slice A ws.length c) := h.box.cell 1
  have hc2 : w.cell? ⟨bt, 1, none⟩ = some (.slice At wt.length ct) := ht.box.cell 1
  have hf1 := h.box.frozen 1
  have hwl : ws.length ≤ 16384 := h.rep.len
  have hwt : wt.length ≤ 16384 := ht.rep.len
  have hcap : ws.length ≤ c := by
    rcases h.row.2 with ⟨hv, h0⟩ | ⟨g, cap, cur, hv, _, _, hnc, _⟩
    · omega
    · injection hv with _ _ h3; omega
  obtain ⟨m, hm⟩ : ∃ m, m = min ws.length wt.length := ⟨_, rfl⟩
  clear h ht
  go_enter Tryz.func40, Tryz.ntmps40
  go_wp2_with first
    | (go_at_call 49; refine (there_set b _ w HB.out).mono ?_; clear HB; rintro e w' ⟨rfl, rfl⟩)
    | (go_at_call 49; refine (there_set bt _ _ HBt.out).mono ?_; rintro e w' ⟨rfl, rfl⟩)
    | fail
  have hm1 : min (ws.length : Int) (wt.length : Int) = (m : Int) := by omega
  have hm3 : min ws.length wt.length = m := hm.symm
  have hm4 : (0 : Int) ≤ (m : Int) := by omega
  have hm5 : m ≤ c := by omega
  clear hm
  have hm2 : (m : Int) ≤ (c : Int) := by omega
  have hmw : m ≤ ws.length := by omega
  have HMW := Lib.hid hmw
  go_still_tail 19, (by kernel_rfl)
  change wpList _ _ _ _ _ w.drew
  have HM3 := Lib.hid hm3
  clear hm1 hm3
  have hS0 : Hid (SetAt (w.drew.setCell ⟨b, 1, none⟩ (.slice A m c)) base b A c (mixW ws wt m 0) (numW (mixW ws wt m 0)) ∧ Foot (setBlks b A) w (w.drew.setCell ⟨b, 1, none⟩ (.slice A m c))) := Lib.hid ⟨by
    rw [mixW_zero ws wt HMW.out]
    refine SetAt.cut (HH.out.below (Below.refl _ _).drew) HMW.out _ ?_
    have := mixW_rep (wt := wt) 0 HH.out.rep HMW.out
    rw [mixW_zero ws wt HMW.out] at this
    exact this, Foot.setCell (Foot.refl _ _).drew (.inl (.inl rfl)) _⟩
  go_wp2_with fail
  go_loopw [38] (fun s wr => ∃ k : Nat, k ≤ m ∧ s = .int .i64 k ∧ SetAt wr base b A c (mixW ws wt m k) (numW (mixW ws wt m k)) ∧ Foot (setBlks b A) w wr) (fun s _ => m - (intOf s).toNat)
  case atStart => exact ⟨0, Nat.zero_le _, rfl, hS0.out⟩
  case round =>
    obtain ⟨k, hk, rfl, hst, hft⟩ := hrel
    have HST := Lib.hid hst
    have HFT := Lib.hid hft
    have htt := HT.out.foot hft hne
    have hd1 : wr.cell? ⟨b, 1, none⟩ = some (.slice A (mixW ws wt m k).length c) := hst.box.cell 1
    have hd2 : wr.cell? ⟨bt, 1, none⟩ = some (.slice At wt.length ct) := htt.box.cell 1
    rw [mixW_len] at hd1
    clear hst hft
    rcases Nat.lt_or_ge k m with hlk | hge
    · obtain ⟨g, rfl, hgl, hbg, hgb, hcx, hfx⟩ := HST.out.word (mixW_get ws wt (m := m) (k := k) hlk)
      rw [if_neg (by omega)] at hcx
      obtain ⟨y, hy⟩ := get_some (l := wt) (k := k) (by have := HM3.out; omega)
      obtain ⟨gt, rfl, hgtl, _, _, hcy, _⟩ := htt.word hy
      have hyd : wt.getD k 0 = y := by rw [List.getD_eq_getElem?_getD, hy]; rfl
      have HTT := Lib.hid htt
      have hxl := getD_lt HH.out.rep k
      have hyl := HT.out.rep.lt y (get_mem' hy)
      have hst := (HST.out.below (Below.refl _ _).drew).turn (i := k) (y := ws.getD k 0 &&& wt.getD k 0) (S' := numW (mixW ws wt m (k + 1))) (by rw [mixW_step ws wt hlk]; exact mixW_rep (k + 1) HH.out.rep HMW.out)
      rw [mixW_step ws wt hlk, hyd] at hst
      have HN := Lib.hid hst
      clear hst htt hy hyd
      generalize ws.getD k 0 = x at *
      have hand : bits BinOp.and IntKind.u64 (x : Int) (y : Int) = ((x &&& y : Nat) : Int) := u64_and x y _ rfl hxl hyl
      have hk2 : (k : Int) < (m : Int) := by omega
      have hk3 : (k : Int) < (wt.length : Int) := by have := HM3.out; omega
      go_wp2_with fail
      go_still_tail 16, (by kernel_rfl)
      change wpList _ _ _ _ _ wr.drew
      go_wp2_with fail
      go_roundw
      case rel => exact ⟨k + 1, by omega, by simp, HN.out, (Foot.setCell (p := ⟨g, k, none⟩) HFT.out (.inl (.inr rfl)) _).drew⟩
      case measure => simp [intOf]; omega
    · obtain rfl : k = m := by omega
      have hE : Hid (SetAt wr base b A c (mixW ws wt k k) (S &&& T)) := Lib.hid ⟨HST.out.box, HST.out.row, mixW_end HH.out.rep HT.out.rep HM3.out.symm, HST.out.hb⟩
      have hd : decide ((k : Int) < (k : Int)) = false := by simp
      go_wp2_with (go_at_call 56; refine (trim_set _ hE.out).mono ?_; rintro e w' ⟨rfl, ws', hS', hF'⟩)
      go_ret
      exact ⟨rfl, A, c, ws', hS', HFT.out.trans hF' (fun i _ e => .inl e), .inl rfl⟩
end Go.Proofs.YtgdnpmpnkbnjaaaGreatDoor
namespace Go.Proofs.YtgdnpmpnkbnjaaaGreatDoor

theorem Rep.num {ws : List Nat} {S : Nat} (h : Rep ws S) : S = numW ws := by
  apply Nat.eq_of_testBit_eq
  intro k
  rw [h.bit k, (numW_rep h.lt h.len).bit k]
theorem pop_word (v n x y : Nat) (hx : x < 2 ^ v) : pop (v + n) (2 ^ v * y + x) = pop v x + pop n y := by
  have h0 : 0 < 2 ^ v := Nat.two_pow_pos v
  have e1 : pop v (2 ^ v * y + x) = pop v x := pop_eq v _ _ fun k hk => by
    rw [Nat.testBit_two_pow_mul_add y hx k, if_pos hk]
  have e2 : (2 ^ v * y + x) >>> v = y := by
    rw [Nat.shiftRight_eq_div_pow, Nat.mul_add_div h0, Nat.div_eq_of_lt hx, Nat.add_zero]
  rw [pop_split, e1, e2]
theorem pop_num {ws : List Nat} (h : ∀ x ∈ ws, x < 18446744073709551616) : popsW ws = pop (64 * ws.length) (numW ws) := by
  induction ws with
  | nil => rw [List.length_nil, Nat.mul_zero]; rfl
  | cons x r ih =>
    have hx : x < 2 ^ 64 := h x (by simp)
    have ih := ih fun y hy => h y (by simp [hy])
    have e := pop_word 64 (64 * r.length) x (numW r) hx
    rw [List.length_cons, show 64 * (r.length + 1) = 64 + 64 * r.length by omega]
    unfold numW popsW
    rw [e, ih]
theorem pop_le_sub : ∀ (n S T : Nat), (∀ k, S.testBit k = true → T.testBit k = true) → pop n S ≤ pop n T
  | 0, _, _, _ => Nat.le_refl _
  | n + 1, S, T, h => by
    have := pop_le_sub n S T h
    have h2 : (S.testBit n).toNat ≤ (T.testBit n).toNat := by
      cases hs : S.testBit n
      · simp
      · rw [h n hs]; exact Nat.le_refl _
    simp only [pop]
    omega
theorem pop_same : ∀ (n S T : Nat), (∀ k, S.testBit k = true → T.testBit k = true) → pop n S = pop n T → ∀ k, k < n → S.testBit k = T.testBit k
  | 0, _, _, _, _, _, hk => absurd hk (Nat.not_lt_zero _)
  | n + 1, S, T, h, he, k, hk => by
    have h1 := pop_le_sub n S T h
    have h2 : (S.testBit n).toNat ≤ (T.testBit n).toNat := by
      cases hs : S.testBit n
      · simp
      · rw [h n hs]; exact Nat.le_refl _
    simp only [pop] at he
    rcases Nat.lt_or_ge k n with h3 | h3
    · exact pop_same n S T h (by omega) k h3
    · obtain rfl : k = n := by omega
      have he2 : (S.testBit k).toNat = (T.testBit k).toNat := by omega
      cases hs : S.testBit k <;> cases ht : T.testBit k <;> simp_all
theorem pop_zero : ∀ (n S : Nat), (∀ k, k < n → S.testBit k = false) → pop n S = 0
  | 0, _, _ => rfl
  | n + 1, S, h => by
    simp only [pop]
    rw [pop_zero n S fun k hk => h k (by omega), h n (by omega)]
    rfl
/-- how many a set holds -/
def cardN (S : Nat) : Nat := pop 1048576 S
theorem Rep.card {ws : List Nat} {S : Nat} (h : Rep ws S) : popsW ws = cardN S := by
  rw [pop_num h.lt, ← h.num]
  show _ = pop 1048576 S
  obtain ⟨d, hd⟩ : ∃ d, 1048576 = 64 * ws.length + d := ⟨1048576 - 64 * ws.length, by have := h.len; omega⟩
  rw [hd, pop_split, pop_zero d (S >>> (64 * ws.length)) fun k _ => by rw [Nat.testBit_shiftRight]; exact h.out _ (by omega)]
  rfl
theorem card_same {ws wt : List Nat} {S T : Nat} (h : Rep ws S) (ht : Rep wt T) (hs : ∀ k, S.testBit k = true → T.testBit k = true) (hc : cardN S = cardN T) : S = T := by
  apply Nat.eq_of_testBit_eq
  intro k
  rcases Nat.lt_or_ge k 1048576 with h1 | h1
  · exact pop_same 1048576 S T hs hc k h1
  · rw [h.out k (by have := h.len; omega), ht.out k (by have := ht.len; omega)]
end Go.Proofs.YtgdnpmpnkbnjaaaGreatDoor
namespace Go.Proofs.YtgdnpmpnkbnjaaaGreatDoor
open Go.RowKit

/-- what can be come to from 0 -/
inductive Clo (nxt : Nat → List Nat) : Nat → Prop
  | zero : Clo nxt 0
  | step {i k : Nat} : Clo nxt i → k ∈ nxt i → Clo nxt k
structure WLInv (nxt : Nat → List Nat) (S : Nat) (wk : List Nat) : Prop where
  zero : S.testBit 0 = true
  sub : ∀ k, S.testBit k = true → Clo nxt k
  wks : ∀ k ∈ wk, S.testBit k = true
  clo : ∀ i, S.testBit i = true → i ∉ wk → ∀ k ∈ nxt i, S.testBit k = true
structure WLMid (nxt : Nat → List Nat) (S : Nat) (wk : List Nat) (i j : Nat) : Prop where
  zero : S.testBit 0 = true
  sub : ∀ k, S.testBit k = true → Clo nxt k
  wks : ∀ k ∈ wk, S.testBit k = true
  here : S.testBit i = true
  clo : ∀ i', S.testBit i' = true → i' ∉ wk → i' ≠ i → ∀ k ∈ nxt i', S.testBit k = true
  done : ∀ k ∈ (nxt i).take j, S.testBit k = true
theorem testBit_put (S n k : Nat) : (S ||| 2 ^ n).testBit k = (S.testBit k || decide (n = k)) := by
  rw [Nat.testBit_or, Nat.testBit_two_pow]
theorem maskL_zero : maskL [0] = 1 := rfl
theorem one_bit (k : Nat) : (1 : Nat).testBit k = true ↔ k = 0 := by
  rw [show (1 : Nat) = 2 ^ 0 from rfl, Nat.testBit_two_pow]
  simp [eq_comm]
section
variable {nxt : Nat → List Nat} {S i j k : Nat} {wk wk' : List Nat}
theorem WLInv.start : WLInv nxt (maskL [0]) [0] := by
  rw [maskL_zero]
  refine ⟨(one_bit 0).2 rfl, fun k hk => ?_, fun k hk => ?_, fun i hi hn => ?_⟩
  · rw [(one_bit k).1 hk]; exact .zero
  · simp at hk; subst hk; exact (one_bit 0).2 rfl
  · have := (one_bit i).1 hi
    subst this
    simp at hn
theorem WLInv.pop (h : WLInv nxt S wk) (hw : ∀ k, k ∈ wk ↔ k = i ∨ k ∈ wk') : WLMid nxt S wk' i 0 :=
  ⟨h.zero, h.sub, fun k hk => h.wks k ((hw k).2 (.inr hk)), h.wks i ((hw i).2 (.inl rfl)), fun i' hi hn hne => h.clo i' hi fun hm => ((hw i').1 hm).elim hne hn, fun k hk => by simp at hk⟩
theorem take_mem {l : List Nat} {j k x : Nat} (h : l[j]? = some k) (hx : x ∈ l.take (j + 1)) : x ∈ l.take j ∨ x = k := by
  rw [List.take_add_one, h] at hx
  simpa using hx
theorem WLMid.skip (h : WLMid nxt S wk i j) (hk : (nxt i)[j]? = some k) (hb : S.testBit k = true) : WLMid nxt S wk i (j + 1) :=
  ⟨h.zero, h.sub, h.wks, h.here, h.clo, fun x hx => (take_mem hk hx).elim (h.done x) fun e => e ▸ hb⟩
theorem WLMid.put (h : WLMid nxt S wk i j) (hk : (nxt i)[j]? = some k) : WLMid nxt (S ||| 2 ^ k) (wk ++ [k]) i (j + 1) := by
  have up : ∀ x, S.testBit x = true → (S ||| 2 ^ k).testBit x = true := fun x hx => by rw [testBit_put, hx]; rfl
  have self : (S ||| 2 ^ k).testBit k = true := by rw [testBit_put]; simp
  refine ⟨up _ h.zero, fun x hx => ?_, fun x hx => ?_, up _ h.here, fun i' hi hn hne x hx => ?_, fun x hx => ?_⟩
  · rw [testBit_put, Bool.or_eq_true, decide_eq_true_iff] at hx
    rcases hx with hx | rfl
    · exact h.sub x hx
    · exact .step (h.sub i h.here) (List.mem_of_getElem? hk)
  · rcases List.mem_append.1 hx with hx | hx
    · exact up x (h.wks x hx)
    · rw [List.mem_singleton.1 hx]; exact self
  · rw [testBit_put, Bool.or_eq_true, decide_eq_true_iff] at hi
    rcases hi with hi | rfl
    · exact up x (h.clo i' hi (fun hm => hn (List.mem_append.2 (.inl hm))) hne x hx)
    · exact absurd (List.mem_append.2 (.inr (List.mem_singleton.2 rfl))) hn
  · rcases take_mem hk hx with hx | rfl
    · exact up x (h.done x hx)
    · exact self
theorem WLMid.fin (h : WLMid nxt S wk i j) (hj : (nxt i).length ≤ j) : WLInv nxt S wk := by
  refine ⟨h.zero, h.sub, h.wks, fun i' hi hn k hk => ?_⟩
  by_cases e : i' = i
  · subst e
    exact h.done k (by rw [List.take_of_length_le hj]; exact hk)
  · exact h.clo i' hi hn e k hk
theorem WLInv.done (h : WLInv nxt S []) (k : Nat) : S.testBit k = true ↔ Clo nxt k := by
  refine ⟨h.sub k, fun hk => ?_⟩
  induction hk with
  | zero => exact h.zero
  | step _ hk ih => exact h.clo _ ih (by simp) _ hk
end
theorem lt_of_bits {S N : Nat} (h : ∀ k, S.testBit k = true → k < N) : S < 2 ^ N :=
  Nat.lt_pow_two_of_testBit S fun k hk => by
    rcases hs : S.testBit k with _ | _
    · rfl
    · have := h k hs; omega
theorem put_gt {S k : Nat} (h : S.testBit k = false) : S < S ||| 2 ^ k := by
  rcases Nat.lt_or_ge S (S ||| 2 ^ k) with h1 | h1
  · exact h1
  · have h2 : S ||| 2 ^ k = S := Nat.le_antisymm h1 Nat.left_le_or
    have h3 : (S ||| 2 ^ k).testBit k = true := by rw [testBit_put]; simp
    rw [h2, h] at h3
    cases h3
theorem pop_put : ∀ (n S k : Nat), S.testBit k = false → k < n → pop n (S ||| 2 ^ k) = pop n S + 1
  | 0, _, _, _, hk => absurd hk (Nat.not_lt_zero _)
  | n + 1, S, k, h, hk => by
    simp only [pop]
    rcases Nat.lt_or_ge k n with h1 | h1
    · rw [pop_put n S k h h1, testBit_put]
      have : decide (k = n) = false := by simp; omega
      rw [this, Bool.or_false]
      omega
    · obtain rfl : k = n := by omega
      rw [testBit_put, h]
      have : pop k (S ||| 2 ^ k) = pop k S := pop_eq k _ _ fun j hj => by
        rw [testBit_put]
        have : decide (k = j) = false := by simp; omega
        rw [this, Bool.or_false]
      rw [this]
      simp
      omega
theorem card_put {S k : Nat} (h : S.testBit k = false) (hk : k < 1048576) : cardN (S ||| 2 ^ k) = cardN S + 1 := pop_put _ S k h hk
theorem card_le (S : Nat) : cardN S ≤ 1048576 := pop_le _ S
theorem card_first : 1 ≤ cardN (maskL [0]) := by
  have := card_put (S := 0) (k := 0) (by simp) (by omega)
  show 1 ≤ cardN (0 ||| 2 ^ 0)
  omega
/-- a set's number, read out of memory -/
def readSet (W : World) (b : Nat) : Nat :=
  match W.cell? ⟨b, 1, none⟩ with
  | some (.slice (some ad) n _) => numW ((List.range n).map fun j => match W.cell? (ad.add j) with | some (.int _ x) => x.toNat | _ => 0)
  | _ => 0
theorem SetAt.read {W : World} {base b c S : Nat} {A : Option Addr} {ws : List Nat} (h : SetAt W base b A c ws S) : readSet W b = S := by
  have h1 : W.cell? ⟨b, 1, none⟩ = some (.slice A ws.length c) := h.box.cell 1
  unfold readSet
  rw [h1, h.rep.num]
  rcases A with _ | ad
  · have : ws = [] := by
      rcases ws with _ | ⟨x, r⟩
      · rfl
      · obtain ⟨g, hA, _⟩ := h.word (k := 0) (x := x) rfl
        cases hA
    subst this
    rfl
  · show numW _ = numW ws
    congr 1
    apply List.ext_getElem?
    intro j
    rcases Nat.lt_or_ge j ws.length with hj | hj
    · obtain ⟨x, hx⟩ := get_some hj
      obtain ⟨g, hA, _, _, _, hc, _⟩ := h.word hx
      obtain rfl := Option.some.inj hA
      rw [List.getElem?_map, List.getElem?_range hj, hx]
      simp only [Option.map_some]
      rw [add_plain', Nat.zero_add, hc]
      simp
    · rw [List.getElem?_eq_none (by simpa using hj), List.getElem?_eq_none hj]
def lenOf : Value → Nat
  | .slice _ n _ => n
  | _ => 0
theorem own_blk {w : World} {base : Nat} {e : TypeId} {size n g : Nat} {v : Value} {xs : List Value} (h : w.ownsRow base e size v n xs) (hg : v.ownBlock = some g) : ∃ cs, Blk w g e cs := by
  rcases h.2 with ⟨rfl, _⟩ | ⟨g', cap, cur, rfl, _, hh, _⟩
  · cases hg
  · obtain rfl := Option.some.inj hg
    exact ⟨cur, hh⟩
theorem own_own_ne {w : World} {base base' : Nat} {e e' : TypeId} {size n size' n' : Nat} {v v' : Value} {xs xs' : List Value} (h : w.ownsRow base e size v n xs) (h' : w.ownsRow base' e' size' v' n' xs') (hne : e ≠ e') (g : Nat) (hg : v.ownBlock = some g) : v'.ownBlock ≠ some g := by
  intro hg'
  obtain ⟨cs, hb⟩ := own_blk h' hg'
  exact own_blk_ne h hb hne hg
/-- a row of another type than a set's shares no block with it -/
theorem SetAt.apart {W : World} {base base' b c S : Nat} {A : Option Addr} {ws : List Nat} {e : TypeId} {size n : Nat} {v : Value} {xs : List Value} (h : SetAt W base b A c ws S) (ho : W.ownsRow base' e size v n xs) (h1 : e ≠ 97) (h2 : e ≠ 98) (g : Nat) (hg : v.ownBlock = some g) : ¬ setBlks b A g := by
  rintro (rfl | hA)
  · exact own_blk_ne ho h.box h1 hg
  · exact own_own_ne ho h.row h2 g hg (by rw [ownBlock_sl]; exact hA)
end Go.Proofs.YtgdnpmpnkbnjaaaGreatDoor
namespace Go.Proofs.YtgdnpmpnkbnjaaaGreatDoor
open Go.RowKit

/-- what an instruction does to the locks that are held -/
def trN (x : Ins) (S : Nat) : Nat := if x.op = 15 then S ||| 2 ^ x.n.toNat else if x.op = 16 then delN S x.n.toNat else S
/-- a meet: it is as a meet of a half order is, instructions go through it, and whoever turns is ranked lower -/
structure Meet (M : Nat → Nat → Nat) (rk : Nat → Nat → Nat) : Prop where
  comm : ∀ a b, M a b = M b a
  assoc : ∀ a b c, M (M a b) c = M a (M b c)
  idem : ∀ a, M a a = a
  hom : ∀ x a b, trN x (M a b) = M (trN x a) (trN x b)
  lt : ∀ N a b, a < 2 ^ N → b < 2 ^ N → M a b < 2 ^ N
  rlt : ∀ N a, a < 2 ^ N → rk N a < 2 ^ N
  low : ∀ N a b, a < 2 ^ N → b < 2 ^ N → M a b ≠ a → rk N (M a b) < rk N a
theorem tr_bit (x : Ins) (S k : Nat) : (trN x S).testBit k = if x.op = 15 then (S.testBit k || decide (x.n.toNat = k)) else if x.op = 16 then (S.testBit k && !decide (x.n.toNat = k)) else S.testBit k := by
  unfold trN
  split
  · exact testBit_put S _ k
  · split
    · exact del_bit S _ k
    · rfl
theorem tr_lt {x : Ins} {S N : Nat} (h : S < 2 ^ N) (hx : x.op = 15 → x.n.toNat < N) : trN x S < 2 ^ N := by
  refine Nat.lt_pow_two_of_testBit _ fun k hk => ?_
  have hS : S.testBit k = false := Nat.testBit_lt_two_pow (Nat.lt_of_lt_of_le h (Nat.pow_le_pow_right (by omega) hk))
  rw [tr_bit, hS]
  split
  · next h15 =>
    have := hx h15
    have : ¬ x.n.toNat = k := by omega
    simp [this]
  · split <;> simp
theorem meet_and : Meet (· &&& ·) (fun _ a => a) := by
  refine ⟨Nat.and_comm, Nat.and_assoc, Nat.and_self, fun x a b => ?_, fun N a b ha _ => Nat.lt_of_le_of_lt Nat.and_le_left ha, fun _ _ h => h, fun N a b _ _ h => ?_⟩
  · apply Nat.eq_of_testBit_eq
    intro k
    rw [Nat.testBit_and, tr_bit, tr_bit, tr_bit, Nat.testBit_and]
    split
    · cases a.testBit k <;> cases b.testBit k <;> simp
    · split
      · cases a.testBit k <;> cases b.testBit k <;> simp
      · rfl
  · exact Nat.lt_of_le_of_ne Nat.and_le_left h
theorem meet_or : Meet (· ||| ·) (fun N a => 2 ^ N - 1 - a) := by
  refine ⟨Nat.or_comm, Nat.or_assoc, Nat.or_self, fun x a b => ?_, fun N a b ha hb => Nat.or_lt_two_pow ha hb, fun N a h => ?_, fun N a b ha hb h => ?_⟩
  · apply Nat.eq_of_testBit_eq
    intro k
    rw [Nat.testBit_or, tr_bit, tr_bit, tr_bit, Nat.testBit_or]
    split
    · cases a.testBit k <;> cases b.testBit k <;> simp
    · split
      · cases a.testBit k <;> cases b.testBit k <;> simp
      · rfl
  · show 2 ^ N - 1 - a < 2 ^ N
    omega
  · have h1 : a ≤ a ||| b := Nat.left_le_or
    have h2 : a ||| b < 2 ^ N := Nat.or_lt_two_pow ha hb
    show 2 ^ N - 1 - (a ||| b) < 2 ^ N - 1 - a
    have h3 : (a ||| b) ≠ a := h
    omega
section
variable {M : Nat → Nat → Nat} {rk : Nat → Nat → Nat}
def leM (M : Nat → Nat → Nat) (a b : Nat) : Prop := M a b = a
theorem Meet.left (h : Meet M rk) (a b : Nat) : leM M (M a b) a := by
  unfold leM
  rw [h.comm (M a b) a, ← h.assoc, h.idem]
theorem Meet.right (h : Meet M rk) (a b : Nat) : leM M (M a b) b := by
  unfold leM
  rw [h.assoc, h.idem]
theorem Meet.both (h : Meet M rk) {a b c : Nat} (h1 : leM M c a) (h2 : leM M c b) : leM M c (M a b) := by
  unfold leM at *
  rw [← h.assoc, h1, h2]
theorem Meet.refl (h : Meet M rk) (a : Nat) : leM M a a := h.idem a
theorem Meet.trans (h : Meet M rk) {a b c : Nat} (h1 : leM M a b) (h2 : leM M b c) : leM M a c := by
  unfold leM at *
  rw [← h1, h.assoc, h2]
theorem Meet.anti (h : Meet M rk) {a b : Nat} (h1 : leM M a b) (h2 : leM M b a) : a = b := by
  unfold leM at *
  rw [← h1, h.comm, h2]
theorem Meet.tr (h : Meet M rk) (x : Ins) {a b : Nat} (h1 : leM M a b) : leM M (trN x a) (trN x b) := by
  unfold leM at *
  rw [← h.hom, h1]
/-- a family that the ways on bear out -/
def Sol (M : Nat → Nat → Nat) (code : List Ins) (T : Nat → Nat) : Prop :=
  leM M (T 0) 0 ∧ ∀ i x k, Come code i → code[i]? = some x → k ∈ onN code i → leM M (T k) (trN x (T i))
structure HInv (M : Nat → Nat → Nat) (code : List Ins) (N : Nat) (st : List (Option Nat)) : Prop where
  len : st.length = code.length
  zero : ∃ U : Nat, st[0]? = some (some U) ∧ leM M U 0
  come : ∀ (i U : Nat), st[i]? = some (some U) → Come code i
  lt : ∀ (i U : Nat), st[i]? = some (some U) → U < 2 ^ N
  sol : ∀ T, Sol M code T → ∀ (i U : Nat), st[i]? = some (some U) → leM M (T i) U
def FixAt (M : Nat → Nat → Nat) (st : List (Option Nat)) (V k : Nat) : Prop := ∃ U : Nat, st[k]? = some (some U) ∧ leM M U V
/-- at the passes' end -/
def HFix (M : Nat → Nat → Nat) (code : List Ins) (st : List (Option Nat)) (n : Nat) : Prop :=
  ∀ (i S : Nat) (x : Ins) (k : Nat), i < n → st[i]? = some (some S) → code[i]? = some x → k ∈ onN code i → FixAt M st (trN x S) k
/-- V comes on from i -/
structure From (M : Nat → Nat → Nat) (code : List Ins) (N i V : Nat) : Prop where
  come : Come code i
  lt : V < 2 ^ N
  sol : ∀ T, Sol M code T → ∀ k ∈ onN code i, leM M (T k) V
theorem HInv.from_ (hM : Meet M rk) {code : List Ins} {N i S : Nat} {st : List (Option Nat)} {x : Ins} (h : HInv M code N st) (hi : st[i]? = some (some S)) (hx : code[i]? = some x) (hn : x.op = 15 → x.n.toNat < N) : From M code N i (trN x S) :=
  ⟨h.come i S hi, tr_lt (h.lt i S hi) hn, fun T hT k hk => hM.trans (hT.2 i x k (h.come i S hi) hx hk) (hM.tr x (h.sol T hT i S hi))⟩
theorem HInv.turn (hM : Meet M rk) {code : List Ins} {N i k V W : Nat} {st : List (Option Nat)} (h : HInv M code N st) (hf : From M code N i V) (hk : k ∈ onN code i) (hl : k < st.length) (hW : (st[k]? = some none ∧ W = V) ∨ ∃ U : Nat, st[k]? = some (some U) ∧ W = M U V) : HInv M code N (st.set k (some W)) := by
  have hget : ∀ (j U : Nat), (st.set k (some W))[j]? = some (some U) → (j = k ∧ U = W) ∨ (j ≠ k ∧ st[j]? = some (some U)) := by
    intro j U hj
    by_cases e : k = j
    · subst e
      rw [List.getElem?_set_self hl] at hj
      exact .inl ⟨rfl, (Option.some.inj (Option.some.inj hj)).symm⟩
    · rw [List.getElem?_set_ne e] at hj
      exact .inr ⟨fun e2 => e e2.symm, hj⟩
  refine ⟨by rw [List.length_set]; exact h.len, ?_, fun j U hj => ?_, fun j U hj => ?_, fun T hT j U hj => ?_⟩
  · obtain ⟨U, h0, h1⟩ := h.zero
    by_cases e : k = 0
    · subst e
      refine ⟨W, List.getElem?_set_self hl, ?_⟩
      rcases hW with ⟨h2, _⟩ | ⟨U', h2, rfl⟩
      · rw [h0] at h2; cases h2
      · rw [h0] at h2
        obtain rfl := Option.some.inj (Option.some.inj h2)
        exact hM.trans (hM.left _ _) h1
    · exact ⟨U, by rw [List.getElem?_set_ne e]; exact h0, h1⟩
  · rcases hget j U hj with ⟨rfl, rfl⟩ | ⟨_, hj⟩
    · exact .step hf.come hk
    · exact h.come j U hj
  · rcases hget j U hj with ⟨rfl, rfl⟩ | ⟨_, hj⟩
    · rcases hW with ⟨_, rfl⟩ | ⟨U', h2, rfl⟩
      · exact hf.lt
      · exact hM.lt N _ _ (h.lt _ _ h2) hf.lt
    · exact h.lt j U hj
  · rcases hget j U hj with ⟨rfl, rfl⟩ | ⟨_, hj⟩
    · rcases hW with ⟨_, rfl⟩ | ⟨U', h2, rfl⟩
      · exact hf.sol T hT _ hk
      · exact hM.both (h.sol T hT _ _ h2) (hf.sol T hT _ hk)
    · exact h.sol T hT j U hj
def rkO (rk : Nat → Nat → Nat) (N : Nat) : Option Nat → Nat
  | none => 2 ^ N
  | some U => rk N U
def rkS (rk : Nat → Nat → Nat) (N : Nat) (st : List (Option Nat)) : Nat := (st.map (rkO rk N)).sum
theorem rkS_set {N : Nat} {u v : Option Nat} (h : rkO rk N v < rkO rk N u) : ∀ {st : List (Option Nat)} {k : Nat}, st[k]? = some u → rkS rk N (st.set k v) < rkS rk N st
  | [], k, hk => by simp at hk
  | a :: r, 0, hk => by
    obtain rfl : a = u := by simpa using hk
    simp only [List.set_cons_zero, rkS, List.map_cons, List.sum_cons]
    omega
  | a :: r, k + 1, hk => by
    have ih := rkS_set h (st := r) (k := k) (by simpa using hk)
    unfold rkS at ih
    simp only [List.set_cons_succ, rkS, List.map_cons, List.sum_cons]
    omega
theorem HInv.low (hM : Meet M rk) {code : List Ins} {N i k V W : Nat} {st : List (Option Nat)} (h : HInv M code N st) (hf : From M code N i V) (hW : (st[k]? = some none ∧ W = V) ∨ ∃ U : Nat, st[k]? = some (some U) ∧ W = M U V ∧ W ≠ U) : rkS rk N (st.set k (some W)) < rkS rk N st := by
  rcases hW with ⟨h1, rfl⟩ | ⟨U, h1, rfl, h2⟩
  · exact rkS_set (rk := rk) (N := N) (u := none) (v := some W) (hM.rlt N _ hf.lt) h1
  · exact rkS_set (rk := rk) (N := N) (u := some U) (v := some (M U V)) (hM.low N _ _ (h.lt _ _ h1) hf.lt h2) h1
theorem set_same {α : Type} {st : List α} {k : Nat} {u : α} (h : st[k]? = some u) : st.set k u = st := by
  apply List.ext_getElem?
  intro j
  by_cases e : k = j
  · subst e
    rw [List.getElem?_set_self (List.getElem?_eq_some_iff.1 h).1, h]
  · rw [List.getElem?_set_ne e]
/-- where a pass stands: at i, j ways on looked at, ch: has it turned something; st0 the state at the pass's beginning -/
structure Pass (M rk : Nat → Nat → Nat) (code : List Ins) (N i V j : Nat) (st0 st : List (Option Nat)) (ch : Bool) : Prop where
  inv : HInv M code N st
  from_ : From M code N i V
  no : ch = false → st = st0 ∧ ∀ k ∈ (onN code i).take j, FixAt M st V k
  yes : ch = true → rkS rk N st < rkS rk N st0
theorem Pass.fresh (hM : Meet M rk) {code : List Ins} {N i V j k : Nat} {st0 st : List (Option Nat)} {ch : Bool} (h : Pass M rk code N i V j st0 st ch) (hk : (onN code i)[j]? = some k) (hs : st[k]? = some none) : Pass M rk code N i V (j + 1) st0 (st.set k (some V)) true := by
  refine ⟨h.inv.turn hM h.from_ (List.mem_of_getElem? hk) (List.getElem?_eq_some_iff.1 hs).1 (.inl ⟨hs, rfl⟩), h.from_, fun e => (by cases e), fun _ => ?_⟩
  have h1 := h.inv.low hM h.from_ (k := k) (W := V) (.inl ⟨hs, rfl⟩)
  cases ch
  · rw [← (h.no rfl).1]; exact h1
  · exact Nat.lt_trans h1 (h.yes rfl)
theorem Pass.met (hM : Meet M rk) {code : List Ins} {N i V j k U : Nat} {st0 st : List (Option Nat)} {ch : Bool} (h : Pass M rk code N i V j st0 st ch) (hk : (onN code i)[j]? = some k) (hs : st[k]? = some (some U)) (hne : M U V ≠ U) : Pass M rk code N i V (j + 1) st0 (st.set k (some (M U V))) true := by
  refine ⟨h.inv.turn hM h.from_ (List.mem_of_getElem? hk) (List.getElem?_eq_some_iff.1 hs).1 (.inr ⟨U, hs, rfl⟩), h.from_, fun e => (by cases e), fun _ => ?_⟩
  have h1 := h.inv.low hM h.from_ (k := k) (W := M U V) (.inr ⟨U, hs, rfl, hne⟩)
  cases ch
  · rw [← (h.no rfl).1]; exact h1
  · exact Nat.lt_trans h1 (h.yes rfl)
theorem Pass.stay {code : List Ins} {N i V j k U : Nat} {st0 st : List (Option Nat)} {ch : Bool} (h : Pass M rk code N i V j st0 st ch) (hk : (onN code i)[j]? = some k) (hs : st[k]? = some (some U)) (he : M U V = U) : Pass M rk code N i V (j + 1) st0 (st.set k (some (M U V))) ch := by
  rw [he, set_same hs]
  exact ⟨h.inv, h.from_, fun e => ⟨(h.no e).1, fun x hx => (take_mem hk hx).elim ((h.no e).2 x) fun e2 => e2 ▸ ⟨U, hs, he⟩⟩, h.yes⟩
theorem HInv.first {code : List Ins} {N : Nat} (hM : Meet M rk) (hp : 0 < code.length) : HInv M code N ((List.replicate code.length none).set 0 (some 0)) := by
  have hget : ∀ (j U : Nat), ((List.replicate code.length (none : Option Nat)).set 0 (some 0))[j]? = some (some U) → j = 0 ∧ U = 0 := by
    intro j U hj
    by_cases e : 0 = j
    · subst e
      rw [List.getElem?_set_self (by simpa using hp)] at hj
      exact ⟨rfl, (Option.some.inj (Option.some.inj hj)).symm⟩
    · rw [List.getElem?_set_ne e, List.getElem?_replicate] at hj
      split at hj <;> cases hj
  refine ⟨by simp, ⟨0, List.getElem?_set_self (by simpa using hp), hM.refl 0⟩, fun j U hj => ?_, fun j U hj => ?_, fun T hT j U hj => ?_⟩
  · rw [(hget j U hj).1]; exact .zero
  · rw [(hget j U hj).2]; exact Nat.two_pow_pos _
  · obtain ⟨rfl, rfl⟩ := hget j U hj
    exact hT.1
theorem HFix.next {code : List Ins} {st : List (Option Nat)} {i S : Nat} {x : Ins} (h : HFix M code st i) (hi : st[i]? = some (some S)) (hx : code[i]? = some x) (hf : ∀ k ∈ onN code i, FixAt M st (trN x S) k) : HFix M code st (i + 1) := by
  intro j S' x' k hj hs hx' hk
  rcases Nat.lt_or_ge j i with h1 | h1
  · exact h j S' x' k h1 hs hx' hk
  · obtain rfl : j = i := by omega
    rw [hi] at hs
    obtain rfl := Option.some.inj (Option.some.inj hs)
    rw [hx] at hx'
    obtain rfl := Option.some.inj hx'
    exact hf k hk
theorem HFix.skip {code : List Ins} {st : List (Option Nat)} {i : Nat} (h : HFix M code st i) (hi : st[i]? = some none) : HFix M code st (i + 1) := by
  intro j S' x' k hj hs hx' hk
  rcases Nat.lt_or_ge j i with h1 | h1
  · exact h j S' x' k h1 hs hx' hk
  · obtain rfl : j = i := by omega
    rw [hi] at hs
    cases hs
/-- what held answers -/
structure Held (M : Nat → Nat → Nat) (code : List Ins) (st : List (Option Nat)) : Prop where
  len : st.length = code.length
  zero : ∃ U : Nat, st[0]? = some (some U) ∧ leM M U 0
  sol : ∀ T, Sol M code T → ∀ (i U : Nat), st[i]? = some (some U) → leM M (T i) U
  come : ∀ (i U : Nat), st[i]? = some (some U) → Come code i
  fix : ∀ (i S : Nat) (x : Ins) (k : Nat), st[i]? = some (some S) → code[i]? = some x → k ∈ onN code i → FixAt M st (trN x S) k
theorem HInv.held {code : List Ins} {N : Nat} {st : List (Option Nat)} (h : HInv M code N st) (hf : HFix M code st code.length) : Held M code st :=
  ⟨h.len, h.zero, h.sol, h.come, fun i S x k hi hx hk => hf i S x k (List.getElem?_eq_some_iff.1 hx).1 hi hx hk⟩
end
end Go.Proofs.YtgdnpmpnkbnjaaaGreatDoor
namespace Go.Proofs.YtgdnpmpnkbnjaaaGreatDoor
open Go.RowKit

/-- the first k words joined -/
def orW (ws wt : List Nat) (k : Nat) : List Nat := (List.range ws.length).map fun j => if j < k then ws.getD j 0 ||| wt.getD j 0 else ws.getD j 0
theorem orW_len (ws wt : List Nat) (k : Nat) : (orW ws wt k).length = ws.length := by simp [orW]
theorem orW_get (ws wt : List Nat) {k j : Nat} (h : j < ws.length) : (orW ws wt k)[j]? = some (if j < k then ws.getD j 0 ||| wt.getD j 0 else ws.getD j 0) := by
  simp [orW, h]
theorem orW_zero (ws wt : List Nat) : orW ws wt 0 = ws := by
  apply List.ext_getElem?
  intro j
  rcases Nat.lt_or_ge j ws.length with hj | hj
  · rw [orW_get ws wt hj, List.getD_eq_getElem?_getD]
    obtain ⟨x, hx⟩ := get_some (l := ws) (k := j) hj
    simp [hx]
  · rw [List.getElem?_eq_none (by rw [orW_len]; exact hj), List.getElem?_eq_none hj]
theorem orW_step (ws wt : List Nat) {k : Nat} (h : k < ws.length) : (orW ws wt k).set k (ws.getD k 0 ||| wt.getD k 0) = orW ws wt (k + 1) := by
  apply List.ext_getElem?
  intro j
  rcases Nat.lt_or_ge j ws.length with hj | hj
  · rw [orW_get ws wt hj]
    by_cases e : k = j
    · subst e
      rw [List.getElem?_set_self (by rw [orW_len]; exact h), if_pos (by omega)]
    · rw [List.getElem?_set_ne e, orW_get ws wt hj]
      by_cases h2 : j < k
      · rw [if_pos h2, if_pos (by omega)]
      · rw [if_neg h2, if_neg (by omega)]
  · rw [List.getElem?_eq_none (by simp [orW_len]; exact hj), List.getElem?_eq_none (by simp [orW_len]; exact hj)]
theorem orW_lt {ws wt : List Nat} {S T k : Nat} (h : Rep ws S) (ht : Rep wt T) : ∀ x ∈ orW ws wt k, x < 18446744073709551616 := by
  intro x hx
  obtain ⟨j, _, rfl⟩ := List.mem_map.1 hx
  have h1 := getD_lt h j
  have h2 := getD_lt ht j
  split
  · exact Nat.or_lt_two_pow (n := 64) h1 h2
  · exact h1
theorem orW_rep {ws wt : List Nat} {S T : Nat} (k : Nat) (h : Rep ws S) (ht : Rep wt T) : Rep (orW ws wt k) (numW (orW ws wt k)) :=
  numW_rep (orW_lt h ht) (by rw [orW_len]; exact h.len)
theorem orW_end {ws wt : List Nat} {S T k : Nat} (h : Rep ws S) (ht : Rep wt T) (hk : k = wt.length) (hl : wt.length ≤ ws.length) : Rep (orW ws wt k) (S ||| T) := by
  subst hk
  refine ⟨orW_lt h ht, fun k => ?_, by rw [orW_len]; exact h.len⟩
  rw [Nat.testBit_or]
  unfold wordBit
  rcases Nat.lt_or_ge (k / 64) ws.length with h1 | h1
  · rw [List.getD_eq_getElem?_getD, orW_get ws wt h1, Option.getD_some, h.bit k]
    unfold wordBit
    by_cases h2 : k / 64 < wt.length
    · rw [if_pos h2, ht.bit k, Nat.testBit_or]
      rfl
    · rw [if_neg h2, ht.out k (by omega), Bool.or_false]
  · rw [List.getD_eq_getElem?_getD, List.getElem?_eq_none (by rw [orW_len]; exact h1), h.out k h1, ht.out k (by omega)]
    simp
end Go.Proofs.YtgdnpmpnkbnjaaaGreatDoor
namespace Go.Proofs.YtgdnpmpnkbnjaaaGreatDoor
open Go.RowKit

theorem u64_or (x y : Nat) (hx : x < 18446744073709551616) (hy : y < 18446744073709551616) : bits BinOp.or IntKind.u64 (x : Int) (y : Int) = ((x ||| y : Nat) : Int) := by
  have h1 : (BitVec.ofInt 64 (x : Int) ||| BitVec.ofInt 64 (y : Int)).toNat = x ||| y := by
    rw [BitVec.toNat_or, BitVec.ofInt_natCast, BitVec.ofInt_natCast, BitVec.toNat_ofNat, BitVec.toNat_ofNat, Nat.mod_eq_of_lt (a := x) hx, Nat.mod_eq_of_lt (a := y) hy]
  have h2 : x ||| y < 2 ^ 64 := Nat.or_lt_two_pow hx hy
  show IntKind.u64.wrap ((BitVec.ofInt 64 (x : Int) ||| BitVec.ofInt 64 (y : Int)).toNat : Int) = _
  rw [h1, IntKind.wrap_u64]
  omega
theorem at_or {g n : Nat} {A : Option Addr} (b : Nat) (h : (some (⟨g, 0, none⟩ : Addr)).map (·.block) = A.map (·.block) ∨ ∃ g', (some (⟨g, 0, none⟩ : Addr)).map (·.block) = some g' ∧ n ≤ g') : setBlks b A g ∨ n ≤ g := by
  rcases h with h | ⟨g', h, hg⟩
  · exact .inl (.inr h.symm)
  · obtain rfl : g = g' := Option.some.inj h
    exact .inr hg
set_option maxRecDepth 100000 in
set_option maxHeartbeats 2000000 in
theorem join_set {base bs b c S bt ct T go co : Nat} {A At : Option Addr} {ws wt : List Nat} (w : World) (h : SetAt w base b A c ws S) (ht : SetAt w bs bt At ct wt T) (hne : ∀ i, setBlks bt At i → ¬ setBlks b A i)
    (ho : w.cell? ⟨go, 0, none⟩ = some (.pointer (some ⟨bt, 0, none⟩))) (hgo : go < w.heap.size) (hgn : ¬ setBlks b A go) :
    Calls Tryz.prog 42 #[.pointer (some ⟨b, 0, none⟩), .slice (some ⟨go, 0, none⟩) 1 co] w fun e w' => ∃ v : Value, e = .returned (.tuple #[v, .int .i64 0]) ∧ SetPost base b A (S ||| T) w w' := by
  obtain ⟨i0, hi0, iz0, iz1, iz2⟩ := info_parts info_u64
  have hl := h.box.lt
  have hlt := ht.box.lt
  have HH := Lib.hid h
  have HT := Lib.hid ht
  have HB := Lib.hid h.box
  have HBt := Lib.hid ht.box
  have hwt : wt.length ≤ 16384 := ht.rep.len
  clear h ht
  go_enter Tryz.func42, Tryz.ntmps42
  go_wp2_with (go_at_call 49; refine (there_set b _ w HB.out).mono ?_; rintro e w' ⟨rfl, rfl⟩)
  go_loop [18] (fun s => ∃ k : Nat, k ≤ 1 ∧ s = .int .i64 k) (fun s => 1 - (intOf s).toNat)
  case atStart => exact ⟨0, by omega, rfl⟩
  case round =>
    obtain ⟨k, hk, rfl⟩ := hrel
    rcases (by omega : k = 0 ∨ k = 1) with rfl | rfl
    · go_wp2_with (go_at_call 49; refine (there_set bt _ _ HBt.out).mono ?_; rintro e w' ⟨rfl, rfl⟩)
      go_round
      case rel => exact ⟨1, by omega, rfl⟩
      case measure => simp [intOf]
    · go_wp2_with fail
      go_loopw [8, 28] (fun m s wr => ∃ (k : Nat) (mo : Bool) (A1 : Option Addr) (c1 : Nat) (ws1 : List Nat), k ≤ 1 ∧ m = .bool mo ∧ s = .int .i64 k ∧ SetAt wr base b A1 c1 ws1 (if k = 0 then S else S ||| T) ∧ Foot (setBlks b A) w wr ∧ (A1.map (·.block) = A.map (·.block) ∨ ∃ g, A1.map (·.block) = some g ∧ w.heap.size ≤ g)) (fun _ s _ => 1 - (intOf s).toNat)
      case atStart => exact ⟨0, false, A, c, ws, by omega, rfl, rfl, HH.out, Foot.refl _ _, .inl rfl⟩
      case round =>
        obtain ⟨k, mo, A1, c1, ws1, hk, rfl, rfl, hst, hft, hA1⟩ := hrel
        have HST := Lib.hid hst
        have HFT := Lib.hid hft
        have HA1 := Lib.hid hA1
        clear hst hft hA1
        rcases (by omega : k = 0 ∨ k = 1) with rfl | rfl
        · rw [if_pos rfl] at HST
          have hor : wr.cell? ⟨go, 0, none⟩ = some (.pointer (some ⟨bt, 0, none⟩)) := (World.cell?_of_block (HFT.out.block go hgo hgn)).trans ho
          have htt0 := HT.out.foot HFT.out hne
          have hTl := htt0.box.cell 1
          go_wp2_with fail
          go_loopw [] (fun wq => ∃ (A2 : Option Addr) (c2 : Nat) (ws2 : List Nat), SetAt wq base b A2 c2 ws2 S ∧ Foot (setBlks b A) w wq ∧ (A2.map (·.block) = A.map (·.block) ∨ ∃ g, A2.map (·.block) = some g ∧ w.heap.size ≤ g)) (fun wq => match wq.cell? ⟨b, 1, none⟩ with | some (.slice _ k _) => 16384 - k | _ => 0)
          case atStart => exact ⟨A1, c1, ws1, HST.out, HFT.out, HA1.out⟩
          case round =>
            obtain ⟨A2, c2, ws2, hst, hft, hA2⟩ := hrel
            have htt := HT.out.foot hft hne
            have hd1 : wr.cell? ⟨b, 1, none⟩ = some (.slice A2 ws2.length c2) := hst.box.cell 1
            have hd2 : wr.cell? ⟨bt, 1, none⟩ = some (.slice At wt.length ct) := htt.box.cell 1
            have hl1 := hst.box.lt
            have hwl : ws2.length ≤ 16384 := hst.rep.len
            have HST2 := Lib.hid hst
            have HFT2 := Lib.hid hft
            have HA2 := Lib.hid hA2
            have HTT := Lib.hid htt
            clear hst hft hA2 htt htt0 hTl
            rcases Nat.lt_or_ge ws2.length wt.length with hlk | hge
            · have hk1 : (ws2.length : Int) < (wt.length : Int) := by omega
              have hbw : base ≤ wr.heap.size := by have := HST2.out.hb; omega
              go_wp2_with fail
              go_quiet (fail)
              generalize hW : World.drewN wr _ = wq
              have HST3 : Hid (SetAt wq base b A2 c2 ws2 S) := Lib.hid (by rw [← hW]; exact HST2.out.foot ((Foot.refl (fun _ => False) _).drewN _) (fun _ _ => id))
              have HFT3 : Hid (Foot (setBlks b A) w wq) := Lib.hid (by rw [← hW]; exact HFT2.out.drewN _)
              have hd3 : wq.cell? ⟨b, 1, none⟩ = some (.slice A2 ws2.length c2) := HST3.out.box.cell 1
              have hl3 := HST3.out.box.lt
              have hbw3 : base ≤ wq.heap.size := by have := HST3.out.hb; omega
              have hd4 : wr.cell? ⟨b, 1, none⟩ = wq.cell? ⟨b, 1, none⟩ := hd1.trans hd3.symm
              have HD4 := Lib.hid hd4
              clear hW hd4
              go_wp2_with (at_builtin; go_must (refine wpList_append_one rfl (.tmp 47) (.tmp 48) _ rfl _ _ base 98 i0 _ 1 8 Tryz.underlying84 hi0 iz0 iz1 iz2 rfl (by omega) (.slice A2 ws2.length c2) ws2.length _ (by rfl) _ (by rfl) (by simp) (by rfl) (by simp [Value.oneCell']) (by exact HST3.out.row) (by simp only [maxLen]; omega) (by omega) (by first | omega | exact hbw3) ?_); intro g1 k1 w3 ho hg hat hbg hgl; have e2 : w3.cell? ⟨b, 1, none⟩ = some (.slice A2 ws2.length c2) := (HST3.out.box.grown hg (fun e => own_blk_ne HST3.out.row HST3.out.box (by decide) e.symm)).cell 1; have f2 := (HST3.out.box.grown hg (fun e => own_blk_ne HST3.out.row HST3.out.box (by decide) e.symm)).frozen 1; have hbl : b < w3.heap.size := Nat.lt_of_lt_of_le hl3 hg.size; have HM := Lib.hid (HST3.out.more (by omega) ho hg (hat.imp id (fun e => by omega))); clear ho hg hat)
              go_roundw
              case rel => exact ⟨_, _, _, HM.out.1, foot_two HFT3.out HM.out.2.1 HA2.out, new_or HA2.out HM.out.2.2 HFT3.out.size⟩
              case measure =>
                have h1 := HM.out.1.box.cell 1
                simp only [h1, hd1]
                simp
                omega
            · have hk1 : decide ((ws2.length : Int) < (wt.length : Int)) = false := by rw [decide_eq_false_iff_not]; omega
              go_wp2_with fail
              go_quiet (fail)
              generalize hW : World.drewN wr _ = wq
              have HST3 : Hid (SetAt wq base b A2 c2 ws2 S) := Lib.hid (by rw [← hW]; exact HST2.out.foot ((Foot.refl (fun _ => False) _).drewN _) (fun _ _ => id))
              have HFT3 : Hid (Foot (setBlks b A) w wq) := Lib.hid (by rw [← hW]; exact HFT2.out.drewN _)
              have hd4 : wq.cell? ⟨bt, 1, none⟩ = some (.slice At wt.length ct) := (HT.out.foot HFT3.out hne).box.cell 1
              clear hW
              go_wp2_with fail
              go_loopw [8, 57] (fun m s wz => ∃ (k : Nat) (mo : Bool), k ≤ wt.length ∧ m = .bool mo ∧ s = .int .i64 k ∧ SetAt wz base b A2 c2 (orW ws2 wt k) (numW (orW ws2 wt k)) ∧ Foot (setBlks b A) w wz) (fun _ s _ => wt.length - (intOf s).toNat)
              case atStart =>
                refine ⟨0, mo, Nat.zero_le _, rfl, rfl, ?_, HFT3.out⟩
                rw [orW_zero, ← HST3.out.rep.num]
                exact HST3.out
              case round =>
                obtain ⟨k, mo, hk, rfl, rfl, hst, hft⟩ := hrel
                have HS4 := Lib.hid hst
                have HF4 := Lib.hid hft
                have htt := HT.out.foot hft hne
                have hd5 : wr.cell? ⟨b, 1, none⟩ = some (.slice A2 (orW ws2 wt k).length c2) := hst.box.cell 1
                rw [orW_len] at hd5
                clear hst hft hd1 hd2 hd4
                rcases Nat.lt_or_ge k wt.length with hlk | hge2
                · obtain ⟨g, rfl, hgl, hbg, hgb, hcx, hfx⟩ := HS4.out.word (orW_get ws2 wt (k := k) (j := k) (by omega))
                  rw [if_neg (by omega)] at hcx
                  obtain ⟨y, hy⟩ := get_some hlk
                  obtain ⟨gt, rfl, hgtl, _, _, hcy, _⟩ := htt.word hy
                  have hyd : wt.getD k 0 = y := by rw [List.getD_eq_getElem?_getD, hy]; rfl
                  have hxl := getD_lt HST3.out.rep k
                  have hyl := HT.out.rep.lt y (get_mem' hy)
                  have hst := HS4.out.turn (i := k) (y := ws2.getD k 0 ||| wt.getD k 0) (S' := numW (orW ws2 wt (k + 1))) (by rw [orW_step ws2 wt (by omega)]; exact orW_rep (k + 1) HST3.out.rep HT.out.rep)
                  rw [orW_step ws2 wt (by omega), hyd] at hst
                  have HN := Lib.hid hst
                  clear hst htt hy hyd
                  generalize ws2.getD k 0 = x at *
                  have hor2 : bits BinOp.or IntKind.u64 (x : Int) (y : Int) = ((x ||| y : Nat) : Int) := u64_or x y hxl hyl
                  have hk2 : (k : Int) < (wt.length : Int) := by omega
                  have hk3 : (k : Int) < (ws2.length : Int) := by omega
                  cases mo
                  · go_wp2_with fail
                    go_roundw
                    case rel => exact ⟨k + 1, _, by omega, rfl, by go_num, HN.out, Foot.setCell (p := ⟨g, k, none⟩) HF4.out (at_or b HA2.out) _⟩
                    case measure => simp [intOf]; omega
                  · go_wp2_with fail
                    go_roundw
                    case rel => exact ⟨k + 1, _, by omega, rfl, by go_num, HN.out, Foot.setCell (p := ⟨g, k, none⟩) HF4.out (at_or b HA2.out) _⟩
                    case measure => simp [intOf]; omega
                · obtain rfl : k = wt.length := by omega
                  have hd : decide ((wt.length : Int) < (wt.length : Int)) = false := by simp
                  go_wp2_with fail
                  go_roundw
                  case rel => exact ⟨1, mo, A2, c2, _, by omega, rfl, rfl, ⟨HS4.out.box, HS4.out.row, by rw [if_neg (by decide)]; exact orW_end HST3.out.rep HT.out.rep rfl hge, HS4.out.hb⟩, HF4.out, HA2.out⟩
                  case measure => simp [intOf]
        · go_wp2_with fail
          go_ret2
          rw [if_neg (by decide)] at HST
          have hP : SetPost base b A (S ||| T) w wr := ⟨A1, c1, ws1, HST.out, HFT.out, HA1.out⟩
          first | exact ⟨⟨.bool mo, rfl⟩, hP⟩ | exact ⟨.bool mo, rfl, hP⟩
end Go.Proofs.YtgdnpmpnkbnjaaaGreatDoor
