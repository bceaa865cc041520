/- Contracts of bits.New, (*bits.Set).Words, Copy. Conditions: the numbers are ones that a set may hold; the set is there. Contracts of (*bits.Set).Copy, trim, Del. Conditions: the set is there, the number is one that a set may hold. Contract of (*bits.Set).Del. Conditions: the set is there, the number is one that a set may hold. Contract of (*bits.Set).Len. Condition: the set is there. Contract of bits.next. Conditions: the words lie at the slice; math/bits.deBruijn64tab lies in its variable. Contract of (*bits.Set).All. Condition: the set is there. -/
import Derived.Test.YtgdnpmpnkbnjaaaGreatDoorZBits2
import Derived.Test.YtgdnpmpnkbnjaaaGreatDoorZShelf
import Derived.Test.YtgdnpmpnkbnjaaaGreatDoorZA
import Derived.Test.YtgdnpmpnkbnjaaaGreatDoorZPopWalk
namespace Go.Proofs.YtgdnpmpnkbnjaaaGreatDoor
open Go.RowKit

def maskL (ns : List Nat) : Nat := ns.foldl (fun S n => S ||| 2 ^ n) 0
theorem maskL_snoc (ns : List Nat) (n : Nat) : maskL (ns ++ [n]) = maskL ns ||| 2 ^ n := by simp [maskL]
theorem Rep.none_ : Rep [] 0 := ⟨fun x hx => (by cases hx), fun k => (by simp [wordBit]), (by simp)⟩
theorem foot_base {w W W' : World} {base b c S : Nat} {A : Option Addr} {ws : List Nat} (h : SetAt W base b A c ws S) (hb : Below base w W) (hB : base ≤ w.heap.size) (hf : Foot (setBlks b A) W W') : Below base w W' := by
  refine hb.trans (Foot.below (hf.mono ?_) (by have := hb.size; omega))
  intro i _ hi
  rcases hi with rfl | hi
  · exact h.hb
  · exact (h.row.lt i (by rw [ownBlock_sl]; exact hi)).1
set_option maxRecDepth 100000 in
set_option maxHeartbeats 1000000 in
theorem new_set (ns : List Nat) (A : Option Addr) (c : Nat) (w : World) (hns : ∀ n ∈ ns, n < 1048576) (hl : ns.length ≤ 4611686018427387904) (hA : RdL encZ 1 w w.heap.size A (ns.map fun n : Nat => (n : Int))) :
    Calls Tryz.prog 27 #[.slice A ns.length c] w fun e w' => ∃ A' c' ws', e = .returned (.tuple #[.pointer (some ⟨w.heap.size, 0, none⟩), .int .i64 0]) ∧ SetAt w' w.heap.size w.heap.size A' c' ws' (maskL ns) ∧ Below w.heap.size w w' := by
  have HNS := Lib.hid hns; clear hns
  have HA := Lib.hid hA; clear hA
  go_enter Tryz.func27, Tryz.ntmps27
  go_wp2_with fail
  go_loopw [11] (fun i wr => ∃ (k : Nat) (A1 : Option Addr) (c1 : Nat) (ws1 : List Nat), k ≤ ns.length ∧ i = .int .i64 k ∧ SetAt wr w.heap.size w.heap.size A1 c1 ws1 (maskL (ns.take k)) ∧ Below w.heap.size w wr) (fun i _ => ns.length - (intOf i).toNat)
  case atStart => exact ⟨0, none, 0, [], by omega, rfl, ⟨Blk.new w _ _, ⟨rfl, .inl ⟨rfl, rfl⟩⟩, Rep.none_, Nat.le_refl _⟩, by go_grown⟩
  case round =>
    obtain ⟨k, A1, c1, ws1, hk, rfl, hst, hb⟩ := hrel
    have HST := Lib.hid hst; clear hst
    have HB := Lib.hid hb
    by_cases hlt : k < ns.length
    · obtain ⟨n, hn⟩ := get_some hlt
      have hn' : (ns.map fun n : Nat => (n : Int))[k]? = some (n : Int) := by rw [List.getElem?_map, hn]; rfl
      obtain ⟨g, off, hAg, hg, hc⟩ := (HA.out.below hb).num hn'
      have hnl := HNS.out n (get_mem' hn)
      have HN := Lib.hid hn
      clear hn hn' hb
      rw [hAg]
      clear hAg
      have hk0 : (0 : Int) ≤ (k : Int) := by omega
      have hk1 : (k : Int) < (ns.length : Int) := by omega
      have HNL := Lib.hid hnl; clear hnl
      go_wp2_with (go_at_call 30; refine (put_set n wr HST.out HNL.out).mono ?_; rintro e w2 ⟨rfl, hp⟩; have HP := Lib.hid hp; clear hp)
      obtain ⟨A2, c2, ws2, h1, h2, h3⟩ := HP.out
      go_roundw
      case rel =>
        refine ⟨k + 1, A2, c2, ws2, by omega, by go_num, ?_, foot_base HST.out HB.out (Nat.le_refl _) h2⟩
        rw [List.take_add_one, HN.out]
        simp only [Option.toList_some]
        rw [maskL_snoc]
        exact h1
      case measure => simp [intOf]; omega
    · obtain rfl : k = ns.length := by omega
      clear hk hlt hb
      go_wp2_with fail
      go_ret2
      have h1 := HST.out
      rw [List.take_of_length_le (Nat.le_refl _)] at h1
      exact ⟨A1, c1, ws1, rfl, h1, HB.out⟩
set_option maxRecDepth 100000 in
set_option maxHeartbeats 1000000 in
/-- a copy of a set's words, in a row of the call's own -/
theorem words_set {base b c S : Nat} {A : Option Addr} {ws : List Nat} (w : World) (h : SetAt w base b A c ws S) :
    Calls Tryz.prog 31 #[.pointer (some ⟨b, 0, none⟩)] w fun e w' => ∃ v, e = .returned v ∧ w'.ownsRow w.heap.size 98 1 v ws.length (ws.flatMap encU) ∧ Below w.heap.size w w' := by
  obtain ⟨i0, hi0, iz0, iz1, iz2⟩ := info_parts info_u64
  have h1 : w.cell? ⟨b, 1, none⟩ = some (.slice A ws.length c) := h.box.cell 1
  have hl := h.box.lt
  have HB := Lib.hid h.box
  have hwl : ws.length ≤ 16384 := h.rep.len
  rcases h.row.2 with ⟨hv, h0⟩ | ⟨g, cap, cur, hv, _⟩
  · injection hv with hv _ h3
    subst hv h3
    have hws : ws = [] := List.eq_nil_of_length_eq_zero h0
    subst hws
    clear h
    go_enter Tryz.func31, Tryz.ntmps31
    go_wp2_with (go_at_call 49; refine (there_set b _ w HB.out).mono ?_; rintro e w' ⟨rfl, rfl⟩)
    refine (Tryz.slices_Clone_nil _ _ w).mono ?_
    rintro e w' ⟨rfl, hw⟩
    obtain rfl := hw
    go_wp2_with fail
    go_ret
    exact ⟨_, rfl, World.ownsRow_nil _ _ _ _, Below.refl _ _⟩
  · injection hv with hv _ h3
    subst hv h3
    have hcells : Hid (∀ j u, (ws.flatMap encU)[j]? = some u → w.cell? ⟨g, 0 + j, none⟩ = some u) := Lib.hid fun j u hu => by
      have := h.row.cells (g := g) rfl j u hu
      rw [add_plain'] at this
      exact this
    have hlen : Hid ((ws.flatMap encU).length = ws.length * 1) := Lib.hid h.row.1
    have hone : Hid (∀ u ∈ ws.flatMap encU, u.oneCell' = true) := Lib.hid fun u hu => by
      obtain ⟨x, _, hx⟩ := List.mem_flatMap.1 hu
      simp [encU] at hx
      rw [hx]
      rfl
    clear h
    go_enter Tryz.func31, Tryz.ntmps31
    go_wp2_with (go_at_call 49; refine (there_set b _ w HB.out).mono ?_; rintro e w' ⟨rfl, rfl⟩)
    refine (Tryz.slices_Clone i0 (.int .u64 0) 1 8 hi0 iz0 iz1 iz2 rfl (by omega) (fun w => by kernel_rfl) g 0 ws.length c (ws.flatMap encU) w hlen.out (by simp only [maxLen]; omega) (by omega) hcells.out hone.out).mono ?_
    rintro e w2 ⟨v, rfl, ho, _, hb⟩
    have HO := Lib.hid ho
    have HBB := Lib.hid hb
    clear ho hb
    go_wp2_with fail
    go_ret
    exact ⟨_, rfl, HO.out, HBB.out⟩
end Go.Proofs.YtgdnpmpnkbnjaaaGreatDoor
namespace Go.Proofs.YtgdnpmpnkbnjaaaGreatDoor
open Go.RowKit

set_option maxRecDepth 100000 in
set_option maxHeartbeats 1000000 in
theorem copy_set {base b c S : Nat} {A : Option Addr} {ws : List Nat} (w : World) (h : SetAt w base b A c ws S) :
    Calls Tryz.prog 53 #[.pointer (some ⟨b, 0, none⟩)] w fun e w' => ∃ b' A' c', e = .returned (.pointer (some ⟨b', 0, none⟩)) ∧ SetAt w' w.heap.size b' A' c' ws S ∧ Below w.heap.size w w' := by
  have HH := Lib.hid h
  have HB := Lib.hid h.box
  have hl := h.box.lt
  clear h
  go_enter Tryz.func53, Tryz.ntmps53
  go_wp2_with (go_at_call 49; refine (there_set b _ w HB.out).mono ?_; rintro e w' ⟨rfl, rfl⟩)
  refine (words_set w HH.out).mono ?_
  rintro e w1 ⟨v, rfl, ho, hb⟩
  obtain ⟨A', c', rfl⟩ := own_form ho
  have HO := Lib.hid ho
  have HBB := Lib.hid hb
  clear ho hb
  go_wp2_with fail
  go_ret
  exact ⟨w1.heap.size, A', c', rfl, ⟨Blk.new _ _ _, HO.out.alloc _, HH.out.rep, HBB.out.size⟩, HBB.out.alloc HBB.out.size _⟩
theorem own_cut {w : World} {base : Nat} {e : TypeId} {size n c k : Nat} {A : Option Addr} {xs : List Value} (h : w.ownsRow base e size (.slice A n c) n xs) (hk : k ≤ n) : w.ownsRow base e size (.slice A k c) k (xs.take (k * size)) := by
  have h1 := h.1
  have hle : k * size ≤ n * size := Nat.mul_le_mul_right _ hk
  refine ⟨by rw [List.length_take, h1]; omega, ?_⟩
  rcases h.2 with ⟨hv, h0⟩ | ⟨g, cap, cur, hv, hb, hh, hnc, hcm, hcs, ht⟩
  · injection hv with hA _ hc
    subst hA hc
    obtain rfl : k = 0 := by omega
    exact .inl ⟨rfl, rfl⟩
  · injection hv with hA _ hc
    subst hA hc
    exact .inr ⟨g, c, cur, rfl, hb, hh, by omega, hcm, hcs, by rw [← ht, List.take_take, Nat.min_eq_left hle]⟩
theorem Rep.cut {ws : List Nat} {S k : Nat} (h : Rep ws S) (hz : ∀ i x, k ≤ i → ws[i]? = some x → x = 0) : Rep (ws.take k) S := by
  refine ⟨fun x hx => h.lt x (List.mem_of_mem_take hx), fun j => ?_, by have := h.len; simp; omega⟩
  rw [h.bit j]
  unfold wordBit
  rw [List.getD_eq_getElem?_getD, List.getD_eq_getElem?_getD, List.getElem?_take]
  by_cases hj : j / 64 < k
  · rw [if_pos hj]
  · rw [if_neg hj]
    rcases hw : ws[j / 64]? with _ | x
    · rfl
    · rw [hz _ x (by omega) hw]
      simp
theorem take_flatU (ws : List Nat) (k : Nat) : (ws.flatMap encU).take k = (ws.take k).flatMap encU := by
  have e : ∀ l : List Nat, l.flatMap encU = l.map (fun z : Nat => Value.int .u64 (z : Int)) := by
    intro l
    induction l with
    | nil => rfl
    | cons a r ih => simp only [List.flatMap_cons, List.map_cons, ih]; rfl
  rw [e, e, List.map_take]
/-- the words behind k struck -/
theorem SetAt.cut {W : World} {base b c S k : Nat} {A : Option Addr} {ws : List Nat} (h : SetAt W base b A c ws S) (hk : k ≤ ws.length) (S' : Nat) (hr : Rep (ws.take k) S') : SetAt (W.setCell ⟨b, 1, none⟩ (.slice A k c)) base b A c (ws.take k) S' := by
  have hne : (Value.slice A ws.length c).ownBlock ≠ some b := own_blk_ne h.row h.box (by decide)
  have hl : (ws.take k).length = k := by simp; omega
  refine ⟨?_, ?_, hr, h.hb⟩
  · rw [hl]
    have := h.box.set_ 1 (.slice A k c)
    simpa using this
  · rw [hl]
    have h1 := own_cut h.row hk
    rw [Nat.mul_one, take_flatU] at h1
    refine ownsRow_setCell_other h1 ?_ _
    rw [ownBlock_sl] at hne ⊢
    exact hne
set_option maxRecDepth 100000 in
set_option maxHeartbeats 1000000 in
theorem trim_set {base b c S : Nat} {A : Option Addr} {ws : List Nat} (w : World) (h : SetAt w base b A c ws S) :
    Calls Tryz.prog 56 #[.pointer (some ⟨b, 0, none⟩)] w fun e w' => e = .returned (.tuple #[]) ∧ ∃ ws', SetAt w' base b A c ws' S ∧ Foot (fun i => i = b) w w' := by
  have HH := Lib.hid h
  have hc1 : w.cell? ⟨b, 1, none⟩ = some (.slice A ws.length c) := h.box.cell 1
  have hf1 := h.box.frozen 1
  have hl := h.box.lt
  have hwl : ws.length ≤ 16384 := h.rep.len
  have hcap : ws.length ≤ c := by
    rcases h.row.2 with ⟨hv, h0⟩ | ⟨g, cap, cur, hv, _, _, hnc, _⟩
    · omega
    · injection hv with _ _ h3; omega
  clear h
  go_enter Tryz.func56, Tryz.ntmps56
  go_wp2_with fail
  go_loop [2] (fun s => ∃ k : Nat, k ≤ ws.length ∧ s = .int .i64 k ∧ ∀ i x, k ≤ i → ws[i]? = some x → x = 0) (fun s => (intOf s).toNat)
  case atStart => exact ⟨ws.length, Nat.le_refl _, rfl, fun i x hi hx => by rw [List.getElem?_eq_none hi] at hx; cases hx⟩
  case round =>
    obtain ⟨k, hk, rfl, hz⟩ := hrel
    have HZ := Lib.hid hz; clear hz
    have hend : Hid (SetAt (w.setCell ⟨b, 1, none⟩ (.slice A k c)) base b A c (ws.take k) S ∧ Foot (fun i => i = b) w (w.setCell ⟨b, 1, none⟩ (.slice A k c))) := Lib.hid ⟨HH.out.cut hk S (HH.out.rep.cut HZ.out), Foot.setCell (P := fun i => i = b) (Foot.refl _ _) (.inl rfl) _⟩
    have hkc : (k : Int) ≤ (c : Int) := by omega
    rcases Nat.eq_zero_or_pos k with h0 | h0
    · have hd : decide ((0 : Int) < (k : Int)) = false := by rw [decide_eq_false_iff_not]; omega
      have hk0 : (0 : Int) ≤ (k : Int) := by omega
      subst h0
      go_wp2_with fail
      go_end0
      exact ⟨rfl, ⟨_, hend.out.1⟩, hend.out.2⟩
    · obtain ⟨x, hx⟩ := get_some (l := ws) (k := k - 1) (by omega)
      obtain ⟨g, rfl, hgl, _, _, hcx, _⟩ := HH.out.word hx
      have hxl := HH.out.rep.lt x (get_mem' hx)
      have hk0 : (0 : Int) < (k : Int) := by omega
      have hk1 : (0 : Int) ≤ (k : Int) - 1 := by omega
      have hk2 : (k : Int) - 1 < (ws.length : Int) := by omega
      have hk3 : ((k : Int) - 1).toNat = k - 1 := by omega
      have HX := Lib.hid hx
      clear hx
      rcases Nat.eq_zero_or_pos x with hx0 | hx0
      · subst hx0
        go_wp2_with fail
        go_round
        case rel =>
          refine ⟨k - 1, by omega, by rw [show ((k - 1 : Nat) : Int) = (k : Int) - 1 by omega], fun i y hi hy => ?_⟩
          rcases Nat.lt_or_ge i k with hik | hik
          · obtain rfl : i = k - 1 := by omega
            rw [HX.out] at hy
            exact (Option.some.inj hy).symm
          · exact HZ.out i y hik hy
        case measure => simp [intOf]; omega
      · have hxb : ((x : Int) == 0) = false := by simp; omega
        go_wp2_with fail
        go_end0
        exact ⟨rfl, ⟨_, hend.out.1⟩, hend.out.2⟩
end Go.Proofs.YtgdnpmpnkbnjaaaGreatDoor
namespace Go.Proofs.YtgdnpmpnkbnjaaaGreatDoor
open Go.RowKit

/-- the set S without n -/
def delN (S n : Nat) : Nat := S ^^^ (S &&& 2 ^ n)
theorem del_bit (S n k : Nat) : (delN S n).testBit k = (S.testBit k && !decide (n = k)) := by
  unfold delN
  rw [Nat.testBit_xor, Nat.testBit_and, Nat.testBit_two_pow]
  cases S.testBit k <;> cases decide (n = k) <;> rfl
theorem delN_out {S n : Nat} (h : S.testBit n = false) : delN S n = S := by
  apply Nat.eq_of_testBit_eq
  intro k
  rw [del_bit]
  by_cases e : n = k
  · subst e; rw [h]; rfl
  · simp [e]
theorem del_lt {x k : Nat} (hx : x < 18446744073709551616) : delN x k < 18446744073709551616 := by
  have h1 : x &&& 2 ^ k ≤ x := Nat.and_le_left
  exact Nat.xor_lt_two_pow (n := 64) hx (Nat.lt_of_le_of_lt h1 hx)
theorem andNot_word (x k : Nat) (hx : x < 18446744073709551616) : bits BinOp.andNot IntKind.u64 (x : Int) ((2 ^ k : Nat) : Int) = ((delN x k : Nat) : Int) := by
  have h1 : (BitVec.ofInt 64 (x : Int) &&& ~~~ BitVec.ofInt 64 ((2 ^ k : Nat) : Int)).toNat = delN x k := by
    apply Nat.eq_of_testBit_eq
    intro j
    rw [BitVec.testBit_toNat, BitVec.getLsbD_and, BitVec.getLsbD_not, BitVec.ofInt_natCast, BitVec.ofInt_natCast, BitVec.getLsbD_ofNat, BitVec.getLsbD_ofNat, del_bit, Nat.testBit_two_pow]
    by_cases hj : j < 64
    · simp [hj]
    · have : x.testBit j = false := Nat.testBit_lt_two_pow (Nat.lt_of_lt_of_le hx (Nat.pow_le_pow_right (n := 2) (by omega) (by omega : 64 ≤ j)))
      simp [hj, this]
  show IntKind.u64.wrap ((BitVec.ofInt 64 (x : Int) &&& ~~~ BitVec.ofInt 64 ((2 ^ k : Nat) : Int)).toNat : Int) = _
  rw [h1, IntKind.wrap_u64]
  have := del_lt (k := k) hx
  omega
theorem Rep.del {ws : List Nat} {S n x : Nat} (h : Rep ws S) (hi : ws[n / 64]? = some x) : Rep (ws.set (n / 64) (delN x (n % 64))) (delN S n) := by
  have hx := h.lt x (get_mem' hi)
  refine h.set hi (del_lt hx) ?_ ?_
  · intro k hk
    rw [del_bit]
    have : decide (n = k) = false := by
      rw [decide_eq_false_iff_not]
      rintro rfl
      exact hk rfl
    rw [this]; simp
  · intro k hk
    have hw : S.testBit k = x.testBit (k % 64) := by
      rw [h.bit k]
      unfold wordBit
      rw [List.getD_eq_getElem?_getD, hk, hi]
      rfl
    rw [del_bit, del_bit, hw]
    congr 1
    by_cases e : n = k
    · subst e; simp
    · have h2 : ¬ n % 64 = k % 64 := fun e2 => e ((bit_split k n).2 ⟨hk, e2.symm⟩).symm
      simp [e, h2]
set_option maxRecDepth 100000 in
set_option maxHeartbeats 2000000 in
theorem del_set {base b c S : Nat} {A : Option Addr} {ws : List Nat} (n : Nat) (w : World) (h : SetAt w base b A c ws S) (hn : n < 1048576) :
    Calls Tryz.prog 54 #[.pointer (some ⟨b, 0, none⟩), .int .i64 n] w fun e w' => e = .returned (.int .i64 0) ∧ SetPost base b A (delN S n) w w' := by
  have hl := h.box.lt
  have HB := Lib.hid h.box
  have HN := Lib.hid hn
  have HH := Lib.hid h
  have hc1 : w.cell? ⟨b, 1, none⟩ = some (.slice A ws.length c) := h.box.cell 1
  have hwl : ws.length ≤ 16384 := h.rep.len
  have h0 : (0 : Int) ≤ (n : Int) := by omega
  have hq0 : (0 : Int) ≤ (n : Int) / 64 := by omega
  have hq1 : (n : Int) / 64 < 16384 := by omega
  clear h hn
  go_enter Tryz.func54, Tryz.ntmps54
  by_cases hk : ws.length ≤ n / 64
  · have hk1 : decide ((n : Int) / 64 < (ws.length : Int)) = false := by rw [decide_eq_false_iff_not]; omega
    go_wp2_with (go_at_call 43; refine (check_set b n _ w HB.out HN.out).mono ?_; rintro e w' ⟨rfl, rfl⟩)
    go_ret
    refine ⟨rfl, A, c, ws, ?_, Foot.refl _ _, .inl rfl⟩
    rw [delN_out (HH.out.out hk)]
    exact HH.out
  · have hk2 : n / 64 < ws.length := by omega
    obtain ⟨x, hx, hxl, _⟩ := HH.out.word_get hk2
    obtain ⟨g, rfl, hgl, hbg, hgb, hcx, hfx⟩ := HH.out.word hx
    have HX := Lib.hid hx
    have hk3 : (n : Int) / 64 < (ws.length : Int) := by omega
    have hk4 : ((n : Int) / 64).toNat = n / 64 := by omega
    obtain ⟨m, hm, _, hsh⟩ := shl_one n
    have HM := Lib.hid hm
    clear hm
    have hw1 : IntKind.i64.wrap ((n : Int) / 64) = (n : Int) / 64 := IntWalk.i64_in _ (by omega)
    clear hx hk
    go_wp2_with first
      | (go_at_call 43; refine (check_set b n _ w HB.out HN.out).mono ?_; rintro e w' ⟨rfl, rfl⟩)
      | fail
    go_still_tail 13, (by kernel_rfl)
    change wpList _ _ _ _ _ w.drew
    have hS : Hid (SetAt (w.drew.setCell ⟨g, n / 64, none⟩ (.int .u64 ((delN x (n % 64) : Nat) : Int))) base b (some ⟨g, 0, none⟩) c (ws.set (n / 64) (delN x (n % 64))) (delN S n)) := Lib.hid (SetAt.turn (HH.out.below (Below.refl _ _).drew) (HH.out.rep.del HX.out))
    have hF : Hid (Foot (setBlks b (some ⟨g, 0, none⟩)) w (w.drew.setCell ⟨g, n / 64, none⟩ (.int .u64 ((delN x (n % 64) : Nat) : Int)))) := Lib.hid (Foot.setCell (Foot.refl _ _).drew (.inl (.inr rfl)) _)
    have hop : bits BinOp.andNot IntKind.u64 (x : Int) (m : Int) = ((delN x (n % 64) : Nat) : Int) := by rw [HM.out]; exact andNot_word x _ hxl
    go_wp2_with first
      | (go_at_call 56; refine (trim_set _ hS.out).mono ?_; rintro e w' ⟨rfl, ws', hS', hF'⟩)
      | fail
    go_ret
    exact ⟨rfl, _, c, ws', hS', hF.out.trans hF' (fun i _ e => .inl e), .inl rfl⟩
end Go.Proofs.YtgdnpmpnkbnjaaaGreatDoor
namespace Go.Proofs.YtgdnpmpnkbnjaaaGreatDoor
open Go.RowKit

/-- how many of the first k words' bits are set -/
def popsW : List Nat → Nat
  | [] => 0
  | x :: r => pop 64 x + popsW r
theorem popsW_app (l r : List Nat) : popsW (l ++ r) = popsW l + popsW r := by
  induction l with
  | nil => simp [popsW]
  | cons a l ih => simp only [List.cons_append, popsW, ih]; omega
theorem pop_le : ∀ n x, pop n x ≤ n
  | 0, _ => Nat.le_refl _
  | n + 1, x => by
    have := pop_le n x
    have h2 := Bool.toNat_le (x.testBit n)
    simp only [pop]
    omega
theorem popsW_le (l : List Nat) : popsW l ≤ 64 * l.length := by
  induction l with
  | nil => simp [popsW]
  | cons a l ih =>
    have := pop_le 64 a
    simp only [popsW, List.length_cons]
    omega
theorem popsW_take {l : List Nat} {k x : Nat} (h : l[k]? = some x) : popsW (l.take (k + 1)) = popsW (l.take k) + pop 64 x := by
  rw [List.take_add_one, h, popsW_app]
  simp [popsW]
set_option maxRecDepth 100000 in
set_option maxHeartbeats 2000000 in
theorem len_set {base b c S : Nat} {A : Option Addr} {ws : List Nat} (w : World) (h : SetAt w base b A c ws S) :
    Calls Tryz.prog 39 #[.pointer (some ⟨b, 0, none⟩)] w fun e w' => e = .returned (.int .i64 ((popsW ws : Nat) : Int)) ∧ w' = w := by
  have hl := h.box.lt
  have HB := Lib.hid h.box
  have HH := Lib.hid h
  have hc1 : w.cell? ⟨b, 1, none⟩ = some (.slice A ws.length c) := h.box.cell 1
  have hwl : ws.length ≤ 16384 := h.rep.len
  clear h
  go_enter Tryz.func39, Tryz.ntmps39
  go_wp2_with (go_at_call 49; refine (there_set b _ w HB.out).mono ?_; rintro e w' ⟨rfl, rfl⟩)
  go_loop [3, 14] (fun s t => ∃ k : Nat, k ≤ ws.length ∧ t = .int .i64 k ∧ s = .int .i64 ((popsW (ws.take k) : Nat) : Int)) (fun _ t => ws.length - (intOf t).toNat)
  case atStart => exact ⟨0, Nat.zero_le _, rfl, by simp [popsW]⟩
  case round =>
    obtain ⟨k, hk, rfl, rfl⟩ := hrel
    rcases Nat.lt_or_ge k ws.length with hlt | hge
    · obtain ⟨x, hx⟩ := get_some hlt
      obtain ⟨g, rfl, hgl, _, _, hcx, _⟩ := HH.out.word hx
      have hxl := HH.out.rep.lt x (get_mem' hx)
      have hsum := popsW_take hx
      have hle1 := popsW_le (ws.take k)
      have hll : (ws.take k).length ≤ k := by simp; omega
      have hpl := pop_le 64 x
      have HX := Lib.hid hx
      clear hx
      generalize popsW (ws.take k) = q at *
      have hk2 : (k : Int) < (ws.length : Int) := by omega
      go_wp2_with (go_at_call 55; refine (ones_count x w hxl).mono ?_; rintro e w' ⟨rfl, rfl⟩)
      go_round
      case rel => exact ⟨k + 1, by omega, by simp, by rw [hsum]; simp⟩
      case measure => simp [intOf]; omega
    · obtain rfl : k = ws.length := by omega
      have hd : decide ((ws.length : Int) < (ws.length : Int)) = false := by simp
      go_wp2_with fail
      go_ret
      exact ⟨by simp, rfl⟩
end Go.Proofs.YtgdnpmpnkbnjaaaGreatDoor
namespace Go.Proofs.YtgdnpmpnkbnjaaaGreatDoor
open Go.RowKit

def Tab (w : World) : Prop := TabAt (Tryz.lays29_ren.g 1) Lib.deBruijn64tab w
def WordsAt (w : World) (A : Option Addr) (ws : List Nat) : Prop := ∀ (k x : Nat), ws[k]? = some x → ∃ g, A = some ⟨g, 0, none⟩ ∧ g < w.heap.size ∧ w.cell? ⟨g, k, none⟩ = some (.int .u64 (x : Int))
/-- r is the least number of S from n on, or -1 -/
def NextIs (S n : Nat) (r : Int) : Prop := (r = -1 ∧ ∀ k, n ≤ k → S.testBit k = false) ∨ ∃ m : Nat, r = (m : Int) ∧ n ≤ m ∧ S.testBit m = true ∧ ∀ k, n ≤ k → k < m → S.testBit k = false
theorem ctz_bits {x : Nat} (h0 : x ≠ 0) (hx : x < 18446744073709551616) : Lib.ctz 64 x < 64 ∧ x.testBit (Lib.ctz 64 x) = true ∧ ∀ k, k < Lib.ctz 64 x → x.testBit k = false := by
  obtain ⟨m, hm, hc⟩ := Lib.ctzFrom_spec 64 x (by omega) hx
  have e : Lib.ctz 64 x = Lib.ctzFrom 64 x := by unfold Lib.ctz; rw [if_neg h0]
  rw [e]
  generalize Lib.ctzFrom 64 x = c at *
  have hb : ∀ k, x.testBit k = (decide (c ≤ k) && (2 * m + 1).testBit (k - c)) := by
    intro k
    rw [hm, Nat.testBit_two_pow_mul]
  refine ⟨hc, ?_, fun k hk => ?_⟩
  · rw [hb]; simp
  · rw [hb]; simp; omega
def lowMask (k : Nat) : Nat := 18446744073709551616 - 2 ^ k
theorem lowMask_bit {k j : Nat} (hk : k < 64) : (lowMask k).testBit j = (decide (j < 64) && decide (k ≤ j)) := by
  have h1 : 2 ^ k ≤ 2 ^ 64 := Nat.pow_le_pow_right (by omega) (by omega)
  have h0 : 0 < 2 ^ k := Nat.two_pow_pos k
  have h := Nat.testBit_two_pow_sub_succ (x := 2 ^ k - 1) (n := 64) (by omega) j
  rw [show 2 ^ k - 1 + 1 = 2 ^ k by omega, Nat.testBit_two_pow_sub_one] at h
  unfold lowMask
  rw [show 18446744073709551616 = 2 ^ 64 by rfl, h]
  by_cases hj : j < k
  · simp [hj]
  · simp [hj]; omega
theorem wrap_ones (n : Nat) : IntKind.u64.wrap (18446744073709551615 * 2 ^ (n % 64)) = (lowMask (n % 64) : Int) := by
  have hlt : 2 ^ (n % 64) < 2 ^ 64 := Nat.pow_lt_pow_right (by omega) (Nat.mod_lt _ (by omega))
  have h0 : 0 < 2 ^ (n % 64) := Nat.two_pow_pos _
  rw [IntKind.wrap_u64]
  have e3 : (18446744073709551615 : Int) * 2 ^ (n % 64) = 18446744073709551615 * ((2 ^ (n % 64) : Nat) : Int) := by push_cast; rfl
  rw [e3]
  unfold lowMask
  have hlt' : 2 ^ (n % 64) < 18446744073709551616 := hlt
  generalize 2 ^ (n % 64) = p at *
  omega
theorem lowMask_lt (k : Nat) : lowMask k < 18446744073709551616 := by
  have h0 : 0 < 2 ^ k := Nat.two_pow_pos _
  unfold lowMask
  omega
theorem Rep.word {ws : List Nat} {S k x : Nat} (h : Rep ws S) (hk : ws[k]? = some x) (j : Nat) (hj : j / 64 = k) : S.testBit j = x.testBit (j % 64) := by
  rw [h.bit j]
  unfold wordBit
  rw [List.getD_eq_getElem?_getD, hj, hk]
  rfl
theorem Rep.out {ws : List Nat} {S : Nat} (h : Rep ws S) (j : Nat) (hj : ws.length ≤ j / 64) : S.testBit j = false := by
  rw [h.bit j]
  unfold wordBit
  rw [List.getD_eq_getElem?_getD, List.getElem?_eq_none hj]
  simp
/-- y: the word k of S from n on -/
def Here (S n k y : Nat) : Prop := y < 18446744073709551616 ∧ ∀ j, j / 64 = k → (decide (n ≤ j) && S.testBit j) = y.testBit (j % 64)
theorem here_first {ws : List Nat} {S n x : Nat} (h : Rep ws S) (hk : ws[n / 64]? = some x) : Here S n (n / 64) (x &&& lowMask (n % 64)) := by
  refine ⟨Nat.lt_of_le_of_lt Nat.and_le_left (h.lt x (get_mem' hk)), fun j hj => ?_⟩
  rw [h.word hk j hj, Nat.testBit_and, lowMask_bit (Nat.mod_lt _ (by omega))]
  have h1 : decide (j % 64 < 64) = true := by simp; omega
  have h2 : decide (n % 64 ≤ j % 64) = decide (n ≤ j) := by
    by_cases e : n ≤ j
    · rw [decide_eq_true e, decide_eq_true (by omega)]
    · rw [decide_eq_false e, decide_eq_false (by omega)]
  rw [h1, h2, Bool.true_and, Bool.and_comm]
theorem here_more {ws : List Nat} {S n k x : Nat} (h : Rep ws S) (hk : ws[k]? = some x) (hn : n / 64 < k) : Here S n k x := by
  refine ⟨h.lt x (get_mem' hk), fun j hj => ?_⟩
  rw [h.word hk j hj, decide_eq_true (by omega), Bool.true_and]
theorem here_miss {S n k : Nat} (h : Here S n k 0) (hp : ∀ j, n ≤ j → j < 64 * k → S.testBit j = false) : ∀ j, n ≤ j → j < 64 * (k + 1) → S.testBit j = false := by
  intro j h1 h2
  by_cases hj : j < 64 * k
  · exact hp j h1 hj
  · have := h.2 j (by omega)
    rw [decide_eq_true h1, Bool.true_and] at this
    rw [this]; simp
theorem here_hit {S n k y : Nat} (h : Here S n k y) (h0 : y ≠ 0) (hp : ∀ j, n ≤ j → j < 64 * k → S.testBit j = false) : NextIs S n (64 * (k : Int) + (Lib.ctz 64 y : Int)) := by
  obtain ⟨hc, ht, hl⟩ := ctz_bits h0 h.1
  generalize Lib.ctz 64 y = q at *
  have hq := h.2 (64 * k + q) (by omega)
  rw [show (64 * k + q) % 64 = q by omega, ht, Bool.and_eq_true, decide_eq_true_eq] at hq
  refine .inr ⟨64 * k + q, by push_cast; rfl, hq.1, hq.2, fun j h1 h2 => ?_⟩
  by_cases hj : j < 64 * k
  · exact hp j h1 hj
  · have := h.2 j (by omega)
    rw [decide_eq_true h1, Bool.true_and, hl _ (by omega)] at this
    exact this
set_option maxRecDepth 100000 in
set_option maxHeartbeats 2000000 in
theorem next_words {c S : Nat} {A : Option Addr} {ws : List Nat} (n : Nat) (w : World) (h : WordsAt w A ws) (hr : Rep ws S) (hn : n ≤ 1048576) (hT : Tab w) :
    Calls Tryz.prog 33 #[.slice A ws.length c, .int .i64 n] w fun e w' => ∃ r, e = .returned (.int .i64 r) ∧ NextIs S n r ∧ w' = w := by
  have HH := Lib.hid h
  have HR := Lib.hid hr
  have HT := Lib.hid hT
  have hwl : ws.length ≤ 16384 := hr.len
  have hn0 : (0 : Int) ≤ (n : Int) := by omega
  have hn1 : (n : Int) ≤ 1048576 := by omega
  clear h hr hn hT
  go_enter Tryz.func33, Tryz.ntmps33
  go_wp2_with fail
  go_loop [5] (fun s => ∃ k : Nat, k ≤ 16384 ∧ n / 64 ≤ k ∧ s = .int .i64 k ∧ ∀ j, n ≤ j → j < 64 * k → S.testBit j = false) (fun s => 20000 - (intOf s).toNat)
  case atStart => exact ⟨n / 64, by omega, Nat.le_refl _, by go_num, fun j h1 h2 => by omega⟩
  case round =>
    obtain ⟨k, hk, hnk, rfl, hz⟩ := hrel
    have HZ := Lib.hid hz
    clear hz
    rcases Nat.lt_or_ge k ws.length with hlt | hge
    · obtain ⟨x, hx⟩ := get_some hlt
      obtain ⟨g, rfl, hgl, hcx⟩ := HH.out k x hx
      have hk2 : (k : Int) < (ws.length : Int) := by omega
      have hw1 : IntKind.i64.wrap ((n : Int) / 64) = (n : Int) / 64 := IntWalk.i64_in _ (by omega)
      have hpost : ∀ y : Nat, Here S n k y → y ≠ 0 → Hid (NextIs S n (64 * (k : Int) + (Lib.ctz 64 y : Int))) := fun y h1 h2 => Lib.hid (here_hit h1 h2 HZ.out)
      have hmul : IntKind.i64.wrap (64 * (k : Int)) = 64 * (k : Int) := IntWalk.i64_in _ (by omega)
      by_cases hkn : k = n / 64
      · have hH := Lib.hid (hkn ▸ here_first HR.out (hkn ▸ hx) : Here S n k (x &&& lowMask (n % 64)))
        have heq : ((k : Int) == (n : Int) / 64) = true := by simp; omega
        have hand : bits BinOp.and IntKind.u64 (x : Int) (IntKind.u64.wrap (18446744073709551615 * 2 ^ (n % 64))) = ((x &&& lowMask (n % 64) : Nat) : Int) := by rw [wrap_ones]; exact u64_and x _ _ rfl (HR.out.lt x (get_mem' hx)) (lowMask_lt _)
        clear hx hkn
        generalize lowMask (n % 64) = lm at *
        generalize x &&& lm = y at *
        rcases Nat.eq_zero_or_pos y with h0 | h0
        · subst h0
          have HA := Lib.hid hand
          clear hand
          go_wp2_with (simp only [HA.out])
          go_round
          case rel => exact ⟨k + 1, by omega, by omega, by simp, here_miss hH.out HZ.out⟩
          case measure => simp [intOf]; omega
        · have hxb : ((y : Int) == 0) = false := by simp; omega
          have hP := hpost y hH.out (by omega)
          obtain ⟨hc, _⟩ := ctz_bits (x := y) (by omega) hH.out.1
          have hcall := Tryz.bits_TrailingZeros64 y hH.out.1 w (fun _ => HT.out)
          generalize Lib.ctz 64 y = q at *
          have HA := Lib.hid hand
          clear hand
          go_wp2_with first
            | (simp only [HA.out])
            | (go_at_call 51; refine hcall.mono ?_; rintro e w' ⟨rfl, rfl⟩)
          go_ret
          exact ⟨_, rfl, hP.out, rfl⟩
      · have hH := Lib.hid (here_more (n := n) HR.out hx (by omega))
        have heq : ((k : Int) == (n : Int) / 64) = false := by simp; omega
        clear hx
        rcases Nat.eq_zero_or_pos x with h0 | h0
        · subst h0
          go_wp2_with fail
          go_round
          case rel => exact ⟨k + 1, by omega, by omega, by simp, here_miss hH.out HZ.out⟩
          case measure => simp [intOf]; omega
        · have hxb : ((x : Int) == 0) = false := by simp; omega
          have hP := hpost x hH.out (by omega)
          obtain ⟨hc, _⟩ := ctz_bits (x := x) (by omega) hH.out.1
          have hcall := Tryz.bits_TrailingZeros64 x hH.out.1 w (fun _ => HT.out)
          generalize Lib.ctz 64 x = q at *
          go_wp2_with (go_at_call 51; refine hcall.mono ?_; rintro e w' ⟨rfl, rfl⟩)
          go_ret
          exact ⟨_, rfl, hP.out, rfl⟩
    · have hd : decide ((k : Int) < (ws.length : Int)) = false := by simp; omega
      go_wp2_with fail
      go_ret
      refine ⟨-1, rfl, .inl ⟨rfl, fun j hj => ?_⟩, rfl⟩
      by_cases hjk : j < 64 * k
      · exact HZ.out j hj hjk
      · exact HR.out.out j (by omega)
end Go.Proofs.YtgdnpmpnkbnjaaaGreatDoor
namespace Go.Proofs.YtgdnpmpnkbnjaaaGreatDoor
open Go.RowKit

/-- what the iterator of a set has captured: a box with the words, new behind base -/
def IterAt (base bx : Nat) (A : Option Addr) (c : Nat) (ws : List Nat) (w : World) : Prop :=
  base ≤ bx ∧ Blk w bx 84 #[.slice A ws.length c] ∧ w.ownsRow base 98 1 (.slice A ws.length c) ws.length (ws.flatMap encU)
theorem IterAt.below {base bx c : Nat} {A : Option Addr} {ws : List Nat} {w w' : World} (h : IterAt base bx A c ws w) (hb : Below w.heap.size w w') : IterAt base bx A c ws w' :=
  ⟨h.1, h.2.1.below hb h.2.1.lt, own_foot h.2.2 (Foot.of_below hb) fun k hk => by have := (h.2.2.lt k hk).2; omega⟩
theorem IterAt.words {base bx c : Nat} {A : Option Addr} {ws : List Nat} {w : World} (h : IterAt base bx A c ws w) : WordsAt w A ws := by
  intro k x hk
  have hlt := (List.getElem?_eq_some_iff.1 hk).1
  obtain ⟨g, cap, hv, hbg, hgl⟩ := h.2.2.form (by omega)
  injection hv with hv h2 h3
  subst hv h3
  have h1 := h.2.2.cells (g := g) rfl k _ (flatU_get hk)
  rw [add_plain', Nat.zero_add] at h1
  exact ⟨g, rfl, hgl, h1⟩
set_option maxRecDepth 100000 in
set_option maxHeartbeats 1000000 in
theorem all_set {base b c S : Nat} {A : Option Addr} {ws : List Nat} (w : World) (h : SetAt w base b A c ws S) :
    Calls Tryz.prog 14 #[.pointer (some ⟨b, 0, none⟩)] w fun e w' => ∃ bx A' c', e = .returned (.func (.func 32) #[] #[.pointer (some ⟨bx, 0, none⟩)]) ∧ IterAt w.heap.size bx A' c' ws w' ∧ Below w.heap.size w w' := by
  have HH := Lib.hid h
  go_enter Tryz.func14, Tryz.ntmps14
  go_wp2_with (go_at_call 31; refine (words_set w HH.out).mono ?_; rintro e w1 ⟨v, rfl, ho, hb⟩; obtain ⟨A', c', rfl⟩ := own_form ho)
  go_ret
  refine ⟨w1.heap.size, A', c', rfl, ⟨hb.size, Blk.new _ _ _, ho.alloc _⟩, hb.alloc hb.size _⟩
end Go.Proofs.YtgdnpmpnkbnjaaaGreatDoor
