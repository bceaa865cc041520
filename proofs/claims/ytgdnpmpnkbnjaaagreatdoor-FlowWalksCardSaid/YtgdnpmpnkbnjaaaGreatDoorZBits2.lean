/- Contracts of (*bits.Set).Put and bits.New of one number. Conditions: the set is there, the number is one that a set may hold. -/
import Derived.Test.YtgdnpmpnkbnjaaaGreatDoorZBits1
import Derived.StillTailTactics
import Derived.IntWalk
import Derived.Deep.Cut
import Derived.Deep.AppendLies
namespace Go.Proofs.YtgdnpmpnkbnjaaaGreatDoor
open Go.RowKit

theorem bit_split (k j : Nat) : (k = j) ↔ (k / 64 = j / 64 ∧ k % 64 = j % 64) := ⟨fun h => by subst h; exact ⟨rfl, rfl⟩, fun ⟨h1, h2⟩ => by omega⟩
theorem own_set' {w : World} {base : Nat} {e : TypeId} {size n c g : Nat} {xs : List Value} (h : w.ownsRow base e size (.slice (some ⟨g, 0, none⟩) n c) n xs) (i : Nat) (u : Value) :
    (w.setCell ⟨g, i, none⟩ u).ownsRow base e size (.slice (some ⟨g, 0, none⟩) n c) n (xs.set i u) := by
  refine ⟨by rw [List.length_set]; exact h.1, ?_⟩
  rcases h.2 with ⟨hv, _⟩ | ⟨g', cap, cur, hv, hb, hh, hnc, hcm, hcs, ht⟩
  · cases hv
  · injection hv with hv h2 h3
    injection hv with hv
    injection hv with hv
    subst hv h3
    refine .inr ⟨g, c, cur.setIfInBounds i u, rfl, hb, Blk.set_ (t := e) hh i u, hnc, hcm, by simpa using hcs, ?_⟩
    rw [Array.toList_setIfInBounds, List.take_set, ht]
theorem Rep.grow {ws : List Nat} {S : Nat} (h : Rep ws S) (hl : ws.length + 1 ≤ 16384) : Rep (ws ++ [0]) S := by
  refine ⟨fun x hx => ?_, fun k => ?_, by simpa using hl⟩
  · rcases List.mem_append.1 hx with hx | hx
    · exact h.lt x hx
    · rw [List.mem_singleton.1 hx]; decide
  · rw [h.bit k]
    unfold wordBit
    rw [List.getD_eq_getElem?_getD, List.getD_eq_getElem?_getD]
    rcases Nat.lt_trichotomy (k / 64) ws.length with hk | hk | hk
    · rw [List.getElem?_append_left hk]
    · rw [hk, List.getElem?_eq_none (Nat.le_refl _), List.getElem?_append_right (Nat.le_refl _)]
      simp
    · rw [List.getElem?_eq_none (by omega), List.getElem?_eq_none (by simp; omega)]
theorem Rep.set {ws : List Nat} {S S' : Nat} (h : Rep ws S) {i x y : Nat} (hi : ws[i]? = some x) (hy : y < 18446744073709551616) (hs : ∀ k, k / 64 ≠ i → S'.testBit k = S.testBit k) (hb : ∀ k, k / 64 = i → S'.testBit k = y.testBit (k % 64)) : Rep (ws.set i y) S' := by
  have hlt := (List.getElem?_eq_some_iff.1 hi).1
  refine ⟨fun z hz => ?_, fun k => ?_, by simpa using h.len⟩
  · rcases List.mem_or_eq_of_mem_set hz with hz | rfl
    · exact h.lt z hz
    · exact hy
  · unfold wordBit
    rw [List.getD_eq_getElem?_getD]
    by_cases hk : k / 64 = i
    · rw [hb k hk, hk, List.getElem?_set_self hlt]
      rfl
    · rw [hs k hk, h.bit k]
      unfold wordBit
      rw [List.getD_eq_getElem?_getD, List.getElem?_set_ne (fun e => hk e.symm)]
theorem Rep.put {ws : List Nat} {S n x : Nat} (h : Rep ws S) (hi : ws[n / 64]? = some x) : Rep (ws.set (n / 64) (x ||| 2 ^ (n % 64))) (S ||| 2 ^ n) := by
  have hx := h.lt x (get_mem' hi)
  have hw : ∀ k, k / 64 = n / 64 → S.testBit k = x.testBit (k % 64) := by
    intro k hk
    rw [h.bit k]
    unfold wordBit
    rw [List.getD_eq_getElem?_getD, hk, hi]
    rfl
  refine h.set hi ?_ ?_ ?_
  · exact Nat.or_lt_two_pow (n := 64) hx (Nat.pow_lt_pow_right (by omega) (Nat.mod_lt _ (by omega)))
  · intro k hk
    rw [Nat.testBit_or, Nat.testBit_two_pow]
    have : decide (n = k) = false := by
      rw [decide_eq_false_iff_not]
      rintro rfl
      exact hk rfl
    rw [this, Bool.or_false]
  · intro k hk
    rw [Nat.testBit_or, Nat.testBit_or, Nat.testBit_two_pow, Nat.testBit_two_pow, hw k hk]
    congr 1
    have := bit_split k n
    by_cases e : n = k
    · subst e; simp
    · have h2 : ¬ n % 64 = k % 64 := fun e2 => e ((bit_split k n).2 ⟨hk, e2.symm⟩).symm
      simp [e, h2]
theorem or_word (x k : Nat) (hx : x < 18446744073709551616) (hk : k < 64) : bits BinOp.or IntKind.u64 (x : Int) ((2 ^ k : Nat) : Int) = ((x ||| 2 ^ k : Nat) : Int) := by
  have h2 : 2 ^ k < 2 ^ 64 := Nat.pow_lt_pow_right (by omega) hk
  have hy : x ||| 2 ^ k < 2 ^ 64 := Nat.or_lt_two_pow hx h2
  have h1 : (BitVec.ofInt 64 (x : Int)).toNat = x := by
    rw [BitVec.ofInt_natCast, BitVec.toNat_ofNat]; exact Nat.mod_eq_of_lt hx
  have h3 : (BitVec.ofInt 64 ((2 ^ k : Nat) : Int)).toNat = 2 ^ k := by
    rw [BitVec.ofInt_natCast, BitVec.toNat_ofNat]; exact Nat.mod_eq_of_lt h2
  show IntKind.u64.wrap ((BitVec.ofInt 64 (x : Int) ||| BitVec.ofInt 64 ((2 ^ k : Nat) : Int)).toNat : Int) = _
  rw [BitVec.toNat_or, h1, h3, IntKind.wrap_u64]
  omega
/-- a word more at the end -/
theorem SetAt.more {W w3 : World} {base b c S g cap : Nat} {A : Option Addr} {ws : List Nat} (h : SetAt W base b A c ws S) (hl : ws.length + 1 ≤ 16384)
    (ho : w3.ownsRow base 98 1 (.slice (some ⟨g, 0, none⟩) (ws.length + 1) cap) (ws.length + 1) (ws.flatMap encU ++ [.int .u64 0])) (hg : W.grownBy w3 (Value.slice A ws.length c).ownBlock) (hat : (Value.slice A ws.length c).ownBlock = some g ∨ W.heap.size ≤ g) :
    SetAt (w3.setCell ⟨b, 1, none⟩ (.slice (some ⟨g, 0, none⟩) (ws.length + 1) cap)) base b (some ⟨g, 0, none⟩) cap (ws ++ [0]) S ∧ Foot (setBlks b A) W (w3.setCell ⟨b, 1, none⟩ (.slice (some ⟨g, 0, none⟩) (ws.length + 1) cap)) ∧
      ((some ⟨g, 0, none⟩ : Option Addr).map (·.block) = A.map (·.block) ∨ ∃ g', (some ⟨g, 0, none⟩ : Option Addr).map (·.block) = some g' ∧ W.heap.size ≤ g') := by
  have hne : (Value.slice A ws.length c).ownBlock ≠ some b := own_blk_ne h.row h.box (by decide)
  have hgb : g ≠ b := by
    rintro rfl
    rcases hat with hat | hat
    · exact hne hat
    · have := h.box.lt; omega
  refine ⟨⟨?_, ?_, h.rep.grow hl, h.hb⟩, ?_, ?_⟩
  · have := (h.box.grown hg (fun e => hne e.symm)).set_ 1 (.slice (some ⟨g, 0, none⟩) (ws.length + 1) cap)
    simpa using this
  · have el : (ws ++ [0]).length = ws.length + 1 := by simp
    have ef : (ws ++ [0]).flatMap encU = ws.flatMap encU ++ [.int .u64 0] := by simp [encU]
    rw [el, ef]
    exact ownsRow_setCell_other ho (by simp [Value.ownBlock]; exact hgb) _
  · refine Foot.setCell ((Foot.of_grown hg).mono ?_) (.inl (.inl rfl)) _
    intro i _ hi
    rw [ownBlock_sl] at hi
    exact .inr hi
  · rcases hat with hat | hat
    · rw [ownBlock_sl] at hat
      exact .inl hat.symm
    · exact .inr ⟨g, rfl, hat⟩
theorem new_or {A1 A2 A : Option Addr} {n m : Nat} (h1 : A1.map (·.block) = A.map (·.block) ∨ ∃ g, A1.map (·.block) = some g ∧ n ≤ g) (h2 : A2.map (·.block) = A1.map (·.block) ∨ ∃ g, A2.map (·.block) = some g ∧ m ≤ g) (hm : n ≤ m) :
    A2.map (·.block) = A.map (·.block) ∨ ∃ g, A2.map (·.block) = some g ∧ n ≤ g := by
  rcases h2 with h2 | ⟨g, h2, hg⟩
  · rw [h2]; exact h1
  · exact .inr ⟨g, h2, by omega⟩
theorem foot_two {w W W' : World} {b : Nat} {A A1 : Option Addr} (h : Foot (setBlks b A) w W) (k : Foot (setBlks b A1) W W') (h1 : A1.map (·.block) = A.map (·.block) ∨ ∃ g, A1.map (·.block) = some g ∧ w.heap.size ≤ g) : Foot (setBlks b A) w W' := by
  refine h.trans k ?_
  intro i hi hs
  rcases hs with rfl | hs
  · exact .inl rfl
  · rcases h1 with h1 | ⟨g, h1, hg⟩
    · exact .inr (by rw [← h1]; exact hs)
    · rw [h1] at hs
      injection hs with hs
      omega
/-- a word turned -/
theorem SetAt.turn {W : World} {base b c S S' i y : Nat} {g : Nat} {ws : List Nat} (h : SetAt W base b (some ⟨g, 0, none⟩) c ws S) (hr : Rep (ws.set i y) S') : SetAt (W.setCell ⟨g, i, none⟩ (.int .u64 (y : Int))) base b (some ⟨g, 0, none⟩) c (ws.set i y) S' := by
  have hne : (Value.slice (some ⟨g, 0, none⟩) ws.length c).ownBlock ≠ some b := own_blk_ne h.row h.box (by decide)
  have hgb : g ≠ b := fun e => hne (by rw [e]; rfl)
  refine ⟨?_, ?_, hr, h.hb⟩
  · rw [List.length_set]
    exact h.box.far (p := ⟨g, i, none⟩) (fun e => hgb e.symm) _
  · rw [List.length_set]
    have h1 := own_set' h.row i (.int .u64 (y : Int))
    have h2 : (ws.flatMap encU).set i (.int .u64 (y : Int)) = (ws.set i y).flatMap encU := by
      have e : ∀ l : List Nat, l.flatMap encU = l.map (fun z : Nat => Value.int .u64 (z : Int)) := by
        intro l
        induction l with
        | nil => rfl
        | cons a r ih => simp only [List.flatMap_cons, List.map_cons, ih]; rfl
      rw [e, e, List.map_set]
    rw [h2] at h1
    exact h1
theorem shl_one (n : Nat) : ∃ m : Nat, m = 2 ^ (n % 64) ∧ m < 18446744073709551616 ∧ Op.shift .shl .u64 1 .i64 ((n : Int).tmod 64) = pure (.int .u64 (m : Int)) := by
  have hlt : 2 ^ (n % 64) < 2 ^ 64 := Nat.pow_lt_pow_right (by omega) (Nat.mod_lt _ (by omega))
  refine ⟨2 ^ (n % 64), rfl, hlt, ?_⟩
  rw [Int.tmod_eq_emod_of_nonneg (by omega), shift_shl_any _ _ _ _ (by omega)]
  have e : ((n : Int) % 64).toNat = n % 64 := by omega
  have e2 : min (n % 64) IntKind.u64.bits = n % 64 := Nat.min_eq_left (by show n % 64 ≤ 64; omega)
  rw [e, e2, IntKind.wrap_u64]
  congr 2
  have e3 : (1 : Int) * 2 ^ (n % 64) = ((2 ^ (n % 64) : Nat) : Int) := by push_cast; omega
  rw [e3]
  have hlt' : 2 ^ (n % 64) < 18446744073709551616 := hlt
  exact Int.emod_eq_of_lt (Int.natCast_nonneg _) (Int.ofNat_lt.2 hlt')
theorem info_u64 : (Tryz.prog.info? 98).map (fun i => (i.zero, i.size, i.bytes)) = some (some (.int .u64 0), 1, 8) := by kernel_rfl
/-- what Put and Del leave: the set turned, in its old row or in a new one; nothing else turned -/
def SetPost (base b : Nat) (A : Option Addr) (S' : Nat) (w w' : World) : Prop :=
  ∃ A' c' ws', SetAt w' base b A' c' ws' S' ∧ Foot (setBlks b A) w w' ∧ (A'.map (·.block) = A.map (·.block) ∨ ∃ g, A'.map (·.block) = some g ∧ w.heap.size ≤ g)
set_option maxRecDepth 100000 in
set_option maxHeartbeats 2000000 in
theorem put_set {base b c S : Nat} {A : Option Addr} {ws : List Nat} (n : Nat) (w : World) (h : SetAt w base b A c ws S) (hn : n < 1048576) :
    Calls Tryz.prog 30 #[.pointer (some ⟨b, 0, none⟩), .int .i64 n] w fun e w' => e = .returned (.int .i64 0) ∧ SetPost base b A (S ||| 2 ^ n) w w' := by
  obtain ⟨i0, hi0, iz0, iz1, iz2⟩ := info_parts info_u64
  have hl := h.box.lt
  have HB := Lib.hid h.box
  have HN := Lib.hid hn
  have HH := Lib.hid h
  have h0 : (0 : Int) ≤ (n : Int) := by omega
  have hq0 : (0 : Int) ≤ (n : Int) / 64 := by omega
  have hq1 : (n : Int) / 64 < 16384 := by omega
  clear h hn
  go_enter Tryz.func30, Tryz.ntmps30
  go_wp2_with (go_at_call 43; refine (check_set b n _ w HB.out HN.out).mono ?_; rintro e w' ⟨rfl, rfl⟩)
  go_loopw [] (fun wr => ∃ (A1 : Option Addr) (c1 : Nat) (ws1 : List Nat), SetAt wr base b A1 c1 ws1 S ∧ Foot (setBlks b A) w wr ∧ (A1.map (·.block) = A.map (·.block) ∨ ∃ g, A1.map (·.block) = some g ∧ w.heap.size ≤ g)) (fun wr => match wr.cell? ⟨b, 1, none⟩ with | some (.slice _ k _) => 16384 - k | _ => 0)
  case atStart => exact ⟨A, c, ws, HH.out, Foot.refl _ _, .inl rfl⟩
  case round =>
    obtain ⟨A1, c1, ws1, hst, hft, hA1⟩ := hrel
    have HST := Lib.hid hst
    have hc1 : wr.cell? ⟨b, 1, none⟩ = some (.slice A1 ws1.length c1) := hst.box.cell 1
    have hl1 := hst.box.lt
    have hwl : ws1.length ≤ 16384 := hst.rep.len
    have HFT := Lib.hid hft
    have HA1 := Lib.hid hA1
    clear hst hft hA1
    by_cases hk : ws1.length ≤ n / 64
    · have hk1 : (ws1.length : Int) ≤ (n : Int) / 64 := by omega
      have hbw : base ≤ wr.heap.size := by have := HST.out.hb; omega
      go_wp2_with (at_builtin; go_must (refine wpList_append_one rfl (.tmp 24) (.tmp 25) _ rfl _ _ base 98 i0 _ 1 8 Tryz.underlying84 hi0 iz0 iz1 iz2 rfl (by omega) (.slice A1 ws1.length c1) ws1.length _ (by rfl) _ (by rfl) (by simp) (by rfl) (by simp [Value.oneCell']) (by exact HST.out.row) (by simp only [maxLen]; omega) (by omega) (by omega) ?_); intro g1 k1 w3 ho hg hat hbg hgl; have e2 : w3.cell? ⟨b, 1, none⟩ = some (.slice A1 ws1.length c1) := (HST.out.box.grown hg (fun e => own_blk_ne HST.out.row HST.out.box (by decide) e.symm)).cell 1; have f2 := (HST.out.box.grown hg (fun e => own_blk_ne HST.out.row HST.out.box (by decide) e.symm)).frozen 1; have hbl : b < w3.heap.size := Nat.lt_of_lt_of_le hl1 hg.size; have HM := Lib.hid (HST.out.more (by omega) ho hg (hat.imp id (fun e => by omega))); clear ho hg hat)
      go_roundw
      case rel => exact ⟨_, _, _, HM.out.1, foot_two HFT.out HM.out.2.1 HA1.out, new_or HA1.out HM.out.2.2 HFT.out.size⟩
      case measure =>
        have h1 := HM.out.1.box.cell 1
        simp only [h1, hc1]
        simp
        omega
    · have hk1 : decide ((ws1.length : Int) ≤ (n : Int) / 64) = false := by rw [decide_eq_false_iff_not]; omega
      have hk2 : n / 64 < ws1.length := by omega
      obtain ⟨x, hx, hxl, _⟩ := HST.out.word_get hk2
      obtain ⟨g, rfl, hgl, hbg, hgb, hcx, hfx⟩ := HST.out.word hx
      have HX := Lib.hid hx
      have hk3 : (n : Int) / 64 < (ws1.length : Int) := by omega
      have hk4 : ((n : Int) / 64).toNat = n / 64 := by omega
      obtain ⟨m, hm, _, hsh⟩ := shl_one n
      have HM := Lib.hid hm
      clear hm
      have hw1 : IntKind.i64.wrap ((n : Int) / 64) = (n : Int) / 64 := IntWalk.i64_in _ (by omega)
      clear hx hk
      go_upto_region 6 with (fail)
      go_still_tail 13, (by kernel_rfl)
      change wpList _ _ _ _ _ wr.drew
      go_wp2_with fail
      go_ret
      refine ⟨rfl, ?_⟩
      have hmv := HM.out
      rw [hmv, or_word x (n % 64) hxl (Nat.mod_lt _ (by omega))]
      have h1 := HST.out.turn (HST.out.rep.put HX.out)
      refine ⟨_, c1, _, h1.below (Below.refl _ _).drew, (foot_two HFT.out (Foot.setCell (Foot.refl _ _) (.inl (.inr rfl)) _) HA1.out).drew, HA1.out⟩
end Go.Proofs.YtgdnpmpnkbnjaaaGreatDoor
