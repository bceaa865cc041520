/- slices.Sort of a row of the call's own of ints. Condition: the row is there. Contract of flow.on. Conditions: the code is read, it is code that Check takes, i is one of its numbers. Contract of flow.come: a set of what can be come to. Conditions: the code is read, it is code that Check takes. Contract of flow.named: what the instructions of an operation name that can be come to. Conditions: the code is read, the set is there, the numbers that are named are ones that a set may hold. Words for flow.held: a family of sets no two of which share a block, and a row of pointers to them. No condition. Contracts of the two meets of flow.held. Conditions: both sets are there, they share no block. -/
import Derived.Test.YtgdnpmpnkbnjaaaGreatDoorZOnPlain
import Derived.Test.YtgdnpmpnkbnjaaaGreatDoorZG
import Derived.Sort.OwnSortedInts
namespace Go.Proofs.YtgdnpmpnkbnjaaaGreatDoor
open Go.RowKit

theorem sort_own {base g cap : Nat} (zs : List Int) (w : World) (hz : zs.length < 4611686018427387904) (h : w.ownsRow base 3 1 (.slice (some ⟨g, 0, none⟩) zs.length cap) zs.length (zs.map (Value.int .i64))) :
    Calls Tryz.prog 57 #[.slice (some ⟨g, 0, none⟩) zs.length cap] w fun e w' => e = .returned (.tuple #[]) ∧
      w'.ownsRow base 3 1 (.slice (some ⟨g, 0, none⟩) zs.length cap) zs.length ((zs.mergeSort fun x y => decide (x ≤ y)).map (Value.int .i64)) ∧ w.grownBy w' (some g) := by
  rcases h.2 with ⟨hv, _⟩ | ⟨g', cap', cur, hv, hb, hh, hnc, hcm, hcs, ht⟩
  · cases hv
  · injection hv with hv h2 h3
    injection hv with hv
    injection hv with hv
    subst hv h3
    rw [Nat.mul_one] at ht
    have hgl : g < w.heap.size := (Array.getElem?_eq_some_iff.1 hh).1
    refine (Tryz.slices_Sort_int g 0 cap zs w (holds_of_blockI hh ht) hgl hz).mono ?_
    rintro e w' ⟨rfl, n, os, rfl⟩
    exact ⟨rfl, ownsRow_sortedI (by simp) hb hh hnc hcm hcs, grownBy_sortedI _⟩
theorem compact_own2 {base g cap : Nat} (a b : Int) (w : World) (h : w.ownsRow base 3 1 (.slice (some ⟨g, 0, none⟩) 2 cap) 2 ([a, b].map (Value.int .i64))) :
    Calls Tryz.prog 58 #[.slice (some ⟨g, 0, none⟩) 2 cap] w fun e w' => ∃ zs, zs = (if a = b then [a] else [a, b]) ∧ e = .returned (.slice (some ⟨g, 0, none⟩) zs.length cap) ∧
      w'.ownsRow base 3 1 (.slice (some ⟨g, 0, none⟩) zs.length cap) zs.length (zs.map (Value.int .i64)) ∧ Foot (fun i => i = g) w w' := by
  have hc := h.cells (g := g) rfl
  have hfz : ∀ j, w.frozen? ⟨g, j, none⟩ = false := by
    rcases h.2 with ⟨hv, _⟩ | ⟨g', cap', cur, hv, hb, hh, _⟩
    · cases hv
    · injection hv with hv
      injection hv with hv
      injection hv with hv
      subst hv
      exact fun j => Blk.frozen (t := 3) hh j
  have hcap : 2 ≤ cap := by
    rcases h.2 with ⟨hv, _⟩ | ⟨g', cap', cur, hv, hb, hh, hnc, _⟩
    · cases hv
    · injection hv with _ _ h3
      omega
  have hp := Tryz.slices_Compact_int_cells g 0 2 cap [a, b] w (by simp) (by omega) hcap (by
    intro j hj
    have hj2 : j < 2 := hj
    have := hc j (.int .i64 ([a, b].getD j 0)) (by
      rcases (by omega : j = 0 ∨ j = 1) with rfl | rfl <;> rfl)
    rw [add_plain', Nat.zero_add] at this
    rw [Nat.zero_add]
    exact this) (fun j _ => hfz _)
  refine hp.mono ?_
  rintro e w' ⟨rfl, q, rfl⟩
  have ht : ([a, b].take 2) = [a, b] := rfl
  rw [ht, compact_two]
  have hd : (w.drewN q).ownsRow base 3 1 (.slice (some ⟨g, 0, none⟩) 2 cap) 2 ([a, b].map (Value.int .i64)) := h
  have hF : ∀ u v : Value, Foot (fun i => i = g) w (((w.drewN q).setCell ⟨g, 0, none⟩ u).setCell ⟨g, 1, none⟩ v) := fun u v =>
    Foot.setCell (P := fun i => i = g) (p := ⟨g, 1, none⟩) (Foot.setCell (P := fun i => i = g) (p := ⟨g, 0, none⟩) ((Foot.refl _ w).drewN q) (.inl rfl) u) (.inl rfl) v
  refine ⟨_, rfl, rfl, ?_, ?_⟩
  · by_cases hab : a = b
    · rw [if_pos hab]
      exact own_cut (own_set' (own_set' hd 0 (.int .i64 a)) 1 (.int .i64 0)) (k := 1) (by omega)
    · rw [if_neg hab]
      exact own_set' (own_set' hd 0 (.int .i64 a)) 1 (.int .i64 b)
  · by_cases hab : a = b
    · rw [if_pos hab]
      exact hF _ _
    · rw [if_neg hab]
      exact hF _ _
end Go.Proofs.YtgdnpmpnkbnjaaaGreatDoor
namespace Go.Proofs.YtgdnpmpnkbnjaaaGreatDoor
open Go.RowKit

theorem own_one (w : World) (base g k : Nat) (u : Value) (hb : base ≤ w.heap.size) (hg : g = w.heap.size) (hu : u = encN1 k) : (w.alloc (.cells #[u] 3)).ownsRow base 3 1 (.slice (some ⟨g, 0, none⟩) 1 1) [k].length ([k].map encN1) := by
  subst hg hu
  exact ⟨by simp, .inr ⟨w.heap.size, 1, #[encN1 k], rfl, hb, Blk.new _ _ _, Nat.le_refl _, by simp only [maxLen]; omega, by simp, by simp⟩⟩
theorem own_pair (w : World) (base g : Nat) (u v : Int) (hb : base ≤ w.heap.size) (hg : g = w.heap.size) : (w.alloc (.cells #[.int .i64 u, .int .i64 v] 3)).ownsRow base 3 1 (.slice (some ⟨g, 0, none⟩) 2 2) 2 ([u, v].map (Value.int .i64)) := by
  subst hg
  exact ⟨by simp, .inr ⟨w.heap.size, 2, #[.int .i64 u, .int .i64 v], rfl, hb, Blk.new _ _ _, Nat.le_refl _, by simp only [maxLen]; omega, by simp, by simp⟩⟩
theorem on_pair (n : Int) (i : Nat) (h0 : 0 ≤ n) : ∃ a b : Int, [n, (i : Int) + 1].mergeSort (fun x y => decide (x ≤ y)) = [a, b] ∧
    (if a = b then [a] else [a, b]) = ((if n.toNat < i + 1 then [n.toNat, i + 1] else if n.toNat = i + 1 then [i + 1] else [i + 1, n.toNat]) : List Nat).map (fun k : Nat => (k : Int)) := by
  obtain ⟨m, rfl⟩ : ∃ m : Nat, n = (m : Int) := ⟨n.toNat, by omega⟩
  rw [sort_two, Int.toNat_natCast]
  rcases Nat.lt_trichotomy m (i + 1) with h | h | h
  · refine ⟨_, _, if_pos (by omega), ?_⟩
    rw [if_neg (by omega), if_pos h]
    simp
  · refine ⟨_, _, if_pos (by omega), ?_⟩
    rw [if_pos (by omega), if_neg (by omega), if_pos h]
    simp [h]
  · refine ⟨_, _, if_neg (by omega), ?_⟩
    rw [if_neg (by omega), if_neg (by omega), if_neg (by omega)]
    simp
set_option maxRecDepth 100000 in
set_option maxHeartbeats 2000000 in
theorem on_row {B : Nat} {A : Option Addr} {c : Nat} {code : List Ins} (i : Nat) (w : World) (hr : RdL encI 5 w B A code) (hB : B ≤ w.heap.size) (hok : OkCode code) (hi : i < code.length) :
    Calls Tryz.prog 44 #[.slice A code.length c, .int .i64 i] w fun e w' => ∃ v, e = .returned v ∧ w'.ownsRow w.heap.size 3 1 v (onN code i).length ((onN code i).map encN1) ∧ Below w.heap.size w w' := by
  obtain ⟨x, hx⟩ := get_some hi
  obtain ⟨g, off, rfl, hg, h0⟩ := hr.ins hx
  have hle := hok.le
  have hgw : g < w.heap.size := by omega
  have HX := Lib.hid hx
  have hi2 : (i : Int) < (code.length : Int) := by omega
  have e8 : ∀ k : Nat, (x.op == (k : Int)) = decide (x.op = k) := fun _ => rfl
  have hno : onN code i = if x.op = 20 then [] else if x.op = 8 then [x.n.toNat] else if x.op = 9 then (if x.n.toNat < i + 1 then [x.n.toNat, i + 1] else if x.n.toNat = i + 1 then [i + 1] else [i + 1, x.n.toNat]) else [i + 1] := by
    unfold onN
    rw [hx]
  have HN := Lib.hid hno
  have HJ := Lib.hid (hok.jmp i x hx)
  clear hno hok hx hr
  by_cases h20 : x.op = 20
  · have d20 : (x.op == 20) = true := by simp [h20]
    have HE := Lib.hid h20
    clear h20
    go_enter Tryz.func44, Tryz.ntmps44
    go_wp2_with fail
    go_ret
    rw [HN.out, if_pos HE.out]
    exact ⟨_, rfl, World.ownsRow_nil _ _ _ _, (Below.refl _ _).alloc (Nat.le_refl _) _⟩
  · have d20 : (x.op == 20) = false := by simp [h20]
    by_cases h8 : x.op = 8
    · have d8 : (x.op == 8) = true := by simp [h8]
      have HE := Lib.hid h8
      have HE20 := Lib.hid h20
      clear h8 h20
      go_enter Tryz.func44, Tryz.ntmps44
      go_wp2_with fail
      go_ret
      rw [HN.out, if_neg HE20.out, if_pos HE.out]
      have := HJ.out (.inl HE.out)
      have hn : x.n = ((x.n.toNat : Nat) : Int) := by omega
      refine ⟨.slice (some ⟨w.heap.size + 1, 0, none⟩) 1 1, rfl, ?_, ((Below.refl _ _).alloc (Nat.le_refl _) _).alloc (by simp) _⟩
      exact own_one _ _ _ _ _ (by rw [World.size_alloc]; omega) (by rw [World.size_alloc]) (by unfold encN1; rw [← hn])
    · have d8 : (x.op == 8) = false := by simp [h8]
      by_cases h9 : x.op = 9
      · have d9 : (x.op == 9) = true := by simp [h9]
        obtain ⟨a, b, hs, hf⟩ := on_pair x.n i (HJ.out (.inr h9)).1
        have HE := Lib.hid h9
        have HE8 := Lib.hid h8
        have HE20 := Lib.hid h20
        have HS := Lib.hid hs
        have HFF := Lib.hid hf
        clear h8 h20 h9 hs hf
        have hsort : ∀ o : Obj, Calls Tryz.prog 57 #[.slice (some ⟨w.heap.size + 1, 0, none⟩) 2 2] ((w.alloc o).alloc (.cells #[.int .i64 x.n, .int .i64 ((i : Int) + 1)] 3)) fun e w' => e = .returned (.tuple #[]) ∧
            w'.ownsRow w.heap.size 3 1 (.slice (some ⟨w.heap.size + 1, 0, none⟩) 2 2) 2 ([a, b].map (Value.int .i64)) ∧ ((w.alloc o).alloc (.cells #[.int .i64 x.n, .int .i64 ((i : Int) + 1)] 3)).grownBy w' (some (w.heap.size + 1)) := fun o => by
          have h := sort_own (base := w.heap.size) (g := w.heap.size + 1) (cap := 2) [x.n, (i : Int) + 1] ((w.alloc o).alloc (.cells #[.int .i64 x.n, .int .i64 ((i : Int) + 1)] 3)) (by simp) (own_pair (w.alloc o) w.heap.size (w.heap.size + 1) _ _ (by rw [World.size_alloc]; omega) (by rw [World.size_alloc]))
          rw [HS.out] at h
          exact h
        go_enter Tryz.func44, Tryz.ntmps44
        go_wp2_with first
          | (go_at_call 57; refine (hsort _).mono ?_; rintro e w2 ⟨rfl, ho, hg2⟩)
          | (go_at_call 58; refine (compact_own2 a b w2 ho).mono ?_; rintro e w3 ⟨zs, hzs, rfl, ho3, hf3⟩; have HZ := Lib.hid hzs; clear hzs)
        go_ret
        have hz := HZ.out.trans HFF.out
        rw [HN.out, if_neg HE20.out, if_neg HE8.out, if_pos HE.out]
        generalize (if x.n.toNat < i + 1 then [x.n.toNat, i + 1] else if x.n.toNat = i + 1 then [i + 1] else [i + 1, x.n.toNat]) = L at *
        subst hz
        have hB0 : ∀ o o2 : Obj, Below w.heap.size w ((w.alloc o).alloc o2) := fun o o2 => ((Below.refl _ _).alloc (Nat.le_refl _) _).alloc (by simp) _
        have hB1 : Below w.heap.size w w2 := (hB0 _ _).grown hg2 (hB0 _ _).size (fun k e => by have := Option.some.inj e; omega)
        refine ⟨.slice (some ⟨w.heap.size + 1, 0, none⟩) (L.map fun k : Nat => (k : Int)).length 2, rfl, ?_, hB1.trans ((hf3.mono (Q := fun i => w.heap.size ≤ i) (fun i _ e => by omega)).below hB1.size)⟩
        rw [List.length_map, List.map_map] at ho3
        rw [List.length_map]
        exact ho3
      · have d9 : (x.op == 9) = false := by simp [h9]
        have HE := Lib.hid h9
        have HE8 := Lib.hid h8
        have HE20 := Lib.hid h20
        clear h8 h20 h9
        go_enter Tryz.func44, Tryz.ntmps44
        go_wp2_with fail
        go_ret
        rw [HN.out, if_neg HE20.out, if_neg HE8.out, if_neg HE.out]
        refine ⟨.slice (some ⟨w.heap.size + 1, 0, none⟩) 1 1, rfl, ?_, ((Below.refl _ _).alloc (Nat.le_refl _) _).alloc (by simp) _⟩
        exact own_one _ _ _ _ _ (by rw [World.size_alloc]; omega) (by rw [World.size_alloc]) (by unfold encN1; push_cast; rfl)
end Go.Proofs.YtgdnpmpnkbnjaaaGreatDoor
namespace Go.Proofs.YtgdnpmpnkbnjaaaGreatDoor
open Go.RowKit

theorem Come.clo {code : List Ins} {k : Nat} : Come code k ↔ Clo (onN code) k := by
  constructor
  · intro h
    induction h with
    | zero => exact .zero
    | step _ hk ih => exact .step ih hk
  · intro h
    induction h with
    | zero => exact .zero
    | step _ hk ih => exact .step ih hk
theorem come_mask {code : List Ins} (h : OkCode code) {S : Nat} (hS : ∀ k, S.testBit k = true ↔ Clo (onN code) k) : S = comeM code :=
  mask_ext fun k => by rw [hS k, comeM_bit h, Come.clo]
/-- an own row of numbers, read -/
theorem own_num {w : World} {base : Nat} {A : Option Addr} {n c k x : Nat} {l : List Nat} (h : w.ownsRow base 3 1 (.slice A n c) n (l.map encN1)) (hn : n = l.length) (hk : l[k]? = some x) : ∃ g, A = some ⟨g, 0, none⟩ ∧ g < w.heap.size ∧ w.cell? ⟨g, k, none⟩ = some (.int .i64 (x : Int)) := by
  have hlt := (List.getElem?_eq_some_iff.1 hk).1
  obtain ⟨g, cap, hv, hbg, hgl⟩ := h.form (by omega)
  injection hv with hv h2 h3
  subst hv h3
  have h1 := h.cells (g := g) rfl k (encN1 x) (by rw [List.getElem?_map, hk]; rfl)
  rw [add_plain', Nat.zero_add] at h1
  exact ⟨g, rfl, hgl, h1⟩
theorem row_foot {P : Nat → Prop} {w w' : World} {base : Nat} {e : TypeId} {size n : Nat} {v : Value} {xs : List Value} (h : w.ownsRow base e size v n xs) (hf : Foot P w w') (hg : ∀ k, v.ownBlock = some k → ¬ P k) : w'.ownsRow base e size v n xs := own_foot h hf hg
theorem below_foot {P : Nat → Prop} {B : Nat} {w W W' : World} (hb : Below B w W) (hB : B ≤ w.heap.size) (hf : Foot P W W') (hp : ∀ i, P i → B ≤ i) : Below B w W' :=
  hb.trans (Foot.below (hf.mono fun i _ hi => hp i hi) (by have := hb.size; omega))
theorem snoc_form {α : Type} (l : List α) (h : l ≠ []) : ∃ r x, l = r ++ [x] := ⟨l.dropLast, l.getLast h, (List.dropLast_concat_getLast h).symm⟩
/-- how much is to be done: what may still come into the set, twice, and the list -/
def todo (N S n : Nat) : Nat := 2 * (2 ^ N - S) + n
theorem todo_put {N S k n : Nat} (h : S.testBit k = false) (hb : (S ||| 2 ^ k) < 2 ^ N) : todo N (S ||| 2 ^ k) (n + 1) < todo N S n := by
  have := put_gt h
  unfold todo
  omega
/-- where come stands -/
structure ComeAt (w0 W : World) (B b : Nat) (A : Option Addr) (c : Nat) (ws : List Nat) (S : Nat) (Aw : Option Addr) (cw : Nat) (wk : List Nat) : Prop where
  set : SetAt W B b A c ws S
  row : W.ownsRow B 3 1 (.slice Aw wk.length cw) wk.length (wk.map encN1)
  below : Below B w0 W
theorem ComeAt.lower {w0 W W' : World} {B b c S cw : Nat} {A Aw : Option Addr} {ws wk : List Nat} (h : ComeAt w0 W B b A c ws S Aw cw wk) (hb : Below W.heap.size W W') : ComeAt w0 W' B b A c ws S Aw cw wk :=
  ⟨h.set.below hb, own_foot h.row (Foot.of_below hb) (fun k hk => by have := (h.row.lt k hk).2; omega), h.below.trans (hb.mono (by have := h.set.hb; have := h.set.box.lt; omega))⟩
theorem ComeAt.keepOn {w0 W W' : World} {P : Nat → Prop} {B b c S cw : Nat} {A Aw : Option Addr} {ws wk : List Nat} (h : ComeAt w0 W B b A c ws S Aw cw wk) (hf : Foot P W W') (hp : ∀ i, P i → setBlks b A i) {Ao : Option Addr} {n base : Nat} {xs : List Value} {co : Nat} (ho : W.ownsRow base 3 1 (.slice Ao n co) n xs) : W'.ownsRow base 3 1 (.slice Ao n co) n xs :=
  own_foot ho hf fun k hk hP => h.set.apart ho (by decide) (by decide) k hk (hp k hP)
theorem ComeAt.put {w0 W W' : World} {B b c S S' cw : Nat} {A Aw : Option Addr} {ws wk : List Nat} (h : ComeAt w0 W B b A c ws S Aw cw wk) (hB : B ≤ w0.heap.size) (hp : SetPost B b A S' W W') : ∃ A' c' ws', ComeAt w0 W' B b A' c' ws' S' Aw cw wk := by
  obtain ⟨A', c', ws', h1, h2, h3⟩ := hp
  exact ⟨A', c', ws', h1, h.keepOn h2 (fun _ hi => hi) h.row, foot_base h.set h.below hB h2⟩
theorem ComeAt.push {w0 W w3 : World} {B b c S cw g cap x : Nat} {A Aw : Option Addr} {ws wk : List Nat} (h : ComeAt w0 W B b A c ws S Aw cw wk) (hB : B ≤ w0.heap.size)
    (ho : w3.ownsRow B 3 1 (.slice (some ⟨g, 0, none⟩) (wk.length + 1) cap) (wk.length + 1) (wk.map encN1 ++ [.int .i64 (x : Int)])) (hg : W.grownBy w3 (Value.slice Aw wk.length cw).ownBlock) : ComeAt w0 w3 B b A c ws S (some ⟨g, 0, none⟩) cap (wk ++ [x]) := by
  refine ⟨h.set.foot (Foot.of_grown hg) (fun i hi e => h.set.apart h.row (by decide) (by decide) i e hi), ?_, h.below.trans (Foot.below ((Foot.of_grown hg).mono fun i _ hi => (h.row.lt i hi).1) (by have := h.below.size; omega))⟩
  have e1 : (wk ++ [x]).length = wk.length + 1 := by simp
  have e2 : (wk ++ [x]).map encN1 = wk.map encN1 ++ [.int .i64 (x : Int)] := by simp [encN1]
  rw [e1, e2]
  exact ho
theorem SetAt.base_le {W : World} {base base' b c S : Nat} {A : Option Addr} {ws : List Nat} (h : SetAt W base b A c ws S) (hb : base' ≤ base) : SetAt W base' b A c ws S :=
  ⟨h.box, own_base h.row hb, h.rep, Nat.le_trans hb h.hb⟩
theorem new_one (w : World) : Calls Tryz.prog 27 #[.slice (some ⟨w.heap.size, 0, none⟩) 1 1] (w.alloc (.cells #[.int .i64 0] 3)) fun e w' => ∃ A' c' ws', e = .returned (.tuple #[.pointer (some ⟨w.heap.size + 1, 0, none⟩), .int .i64 0]) ∧ SetAt w' w.heap.size (w.heap.size + 1) A' c' ws' (maskL [0]) ∧ Below w.heap.size w w' := by
  have h := new_set [0] (some ⟨w.heap.size, 0, none⟩) 1 (w.alloc (.cells #[.int .i64 0] 3)) (by simp) (by simp) (by
    intro _
    refine ⟨w.heap.size, 0, rfl, by simp, fun k x hk j u hu => ?_⟩
    have hk0 : k = 0 := by
      have := (List.getElem?_eq_some_iff.1 hk).1
      simpa using this
    subst hk0
    obtain rfl : (0 : Int) = x := by simpa using hk
    have hj0 : j = 0 := by
      have := (List.getElem?_eq_some_iff.1 hu).1
      simpa [encZ] using this
    subst hj0
    obtain rfl : Value.int .i64 0 = u := by simpa [encZ] using hu
    exact (Blk.new w 3 #[.int .i64 0]).cell 0)
  refine h.mono ?_
  rintro e w' ⟨A', c', ws', rfl, h1, h2⟩
  rw [World.size_alloc] at h1 h2
  exact ⟨A', c', ws', by rw [World.size_alloc], h1.base_le (by omega), (Below.alloc (Below.refl _ _) (Nat.le_refl _) _).trans (h2.mono (by omega))⟩
theorem ComeAt.cut {w0 W : World} {B b c S cw i : Nat} {A Aw : Option Addr} {ws rk : List Nat} (h : ComeAt w0 W B b A c ws S Aw cw (rk ++ [i])) : ComeAt w0 W B b A c ws S Aw cw rk := by
  have h1 := own_cut h.row (k := rk.length) (by simp)
  rw [Nat.mul_one, List.map_append, List.take_left' (by simp)] at h1
  exact ⟨h.set, h1, h.below⟩
/-- the row that is gone through: it shares no block with the list -/
structure OnAt (W : World) (base : Nat) (Ao : Option Addr) (co : Nat) (l : List Nat) (Aw : Option Addr) : Prop where
  row : W.ownsRow base 3 1 (.slice Ao l.length co) l.length (l.map encN1)
  ne : ∀ g, Aw.map (·.block) = some g → Ao.map (·.block) ≠ some g
theorem OnAt.grown {W w3 : World} {base co g G n cw : Nat} {Ao Aw : Option Addr} {l : List Nat} (h : OnAt W base Ao co l Aw) (hg : W.grownBy w3 (Value.slice Aw n cw).ownBlock) (hat : (Value.slice Aw n cw).ownBlock = some g ∨ g = G + 1) (hG : W.heap.size ≤ G) : OnAt w3 base Ao co l (some ⟨g, 0, none⟩) := by
  rw [ownBlock_sl] at hg hat
  refine ⟨own_foot h.row (Foot.of_grown hg) fun k hk e => ?_, fun k hk e => ?_⟩
  · rw [ownBlock_sl] at hk
    exact h.ne k e hk
  · obtain rfl : g = k := Option.some.inj hk
    rcases hat with hat | hat
    · exact h.ne g hat e
    · have := (h.row.lt g (by rw [ownBlock_sl]; exact e)).2
      omega
theorem ComeAt.putOn {w0 W W' : World} {B b c S S' cw base co : Nat} {A Aw Ao : Option Addr} {ws wk l : List Nat} (h : ComeAt w0 W B b A c ws S Aw cw wk) (hB : B ≤ w0.heap.size) (ho : OnAt W base Ao co l Aw) (hp : SetPost B b A S' W W') : ∃ A' c' ws', ComeAt w0 W' B b A' c' ws' S' Aw cw wk ∧ OnAt W' base Ao co l Aw := by
  obtain ⟨A', c', ws', h1, h2, h3⟩ := hp
  exact ⟨A', c', ws', ⟨h1, h.keepOn h2 (fun _ hi => hi) h.row, foot_base h.set h.below hB h2⟩, h.keepOn h2 (fun _ hi => hi) ho.row, ho.ne⟩
set_option maxRecDepth 100000 in
set_option maxHeartbeats 2000000 in
theorem come_set {B : Nat} {A0 : Option Addr} {c0 : Nat} {code : List Ins} (w : World) (hr : RdL encI 5 w B A0 code) (hB : B ≤ w.heap.size) (hok : OkCode code) :
    Calls Tryz.prog 29 #[.slice A0 code.length c0] w fun e w' => ∃ b A' c' ws, e = .returned (.pointer (some ⟨b, 0, none⟩)) ∧ SetAt w' w.heap.size b A' c' ws (comeM code) ∧ Below w.heap.size w w' := by
  obtain ⟨i0, hi0, iz0, iz1, iz2⟩ := info_parts info_int
  have HR := Lib.hid hr; clear hr
  have HOK := Lib.hid hok; clear hok
  have HB := Lib.hid hB; clear hB
  obtain ⟨N, hN⟩ : ∃ N, N = code.length := ⟨_, rfl⟩
  have HN := Lib.hid hN; clear hN
  have hle := HOK.out.le
  go_enter Tryz.func29, Tryz.ntmps29
  go_wp2_with (go_at_call 27; refine (new_one w).mono ?_; rintro e w1 ⟨A1, c1, ws1, rfl, hst, hbl⟩; have HST := Lib.hid hst; have HBL := Lib.hid hbl; clear hst hbl)
  have HW1 := Lib.hid HBL.out.size
  have hC0 : Hid (ComeAt w (w1.alloc (.cells #[.int .i64 0] 3)) w.heap.size (w.heap.size + 1) A1 c1 ws1 (maskL [0]) (some ⟨w1.heap.size, 0, none⟩) 1 [0]) := Lib.hid ⟨HST.out.below (Below.alloc (Below.refl _ _) (Nat.le_refl _) _), own_one w1 w.heap.size w1.heap.size 0 _ HBL.out.size rfl rfl, HBL.out.alloc HBL.out.size _⟩
  go_loopw [5] (fun v wr => ∃ (A1 : Option Addr) (c1 : Nat) (ws1 : List Nat) (S : Nat) (Aw : Option Addr) (cw : Nat) (wk : List Nat), v = .slice Aw wk.length cw ∧ ComeAt w wr w.heap.size (w.heap.size + 1) A1 c1 ws1 S Aw cw wk ∧ WLInv (onN code) S wk ∧ wk.length ≤ cardN S) (fun v wr => todo N (readSet wr (w.heap.size + 1)) (lenOf v))
  case atStart => exact ⟨A1, c1, ws1, _, _, _, [0], rfl, hC0.out, WLInv.start, card_first⟩
  case round =>
    obtain ⟨A2, c2, ws2, S, Aw, cw, wk, rfl, hC, hI, hcd⟩ := hrel
    have HC := Lib.hid hC
    have HI := Lib.hid hI
    have HCD := Lib.hid hcd
    have hcl := card_le S
    have hwl : wk.length ≤ 1048576 := by omega
    clear hC hI hC0 hcd hcl
    by_cases hw0 : wk = []
    · subst hw0
      have hd : decide ((0 : Int) < (([] : List Nat).length : Int)) = false := by simp
      go_wp2_with fail
      go_ret
      have he := come_mask HOK.out HI.out.done
      rw [← he]
      exact ⟨_, A2, c2, ws2, rfl, HC.out.set, HC.out.below⟩
    · obtain ⟨rk, i, hwk⟩ := snoc_form wk hw0
      subst hwk
      clear hw0
      obtain ⟨g, rfl, hgl, hgc⟩ := own_num HC.out.row rfl (k := rk.length) (x := i) (by simp)
      have hmid := HI.out.pop (i := i) (wk' := rk) (fun k => by simp [or_comm])
      have hil : i < code.length := Come.lt HOK.out (Come.clo.2 (HI.out.sub i hmid.here))
      have HM0 := Lib.hid hmid
      have HC1 := Lib.hid HC.out.cut
      have hlen : (rk ++ [i]).length = rk.length + 1 := by simp
      simp only [List.length_append, List.length_cons, List.length_nil, Nat.zero_add] at hwl ⊢
      have hcc : rk.length ≤ cw := by
        rcases HC1.out.row.2 with ⟨hv, _⟩ | ⟨g', cap, cur, hv, _, _, hnc, _⟩
        · cases hv
        · injection hv with _ _ h3; omega
      have HLN := Lib.hid hlen
      clear hmid hlen
      have hBw : Hid (Below w.heap.size w wr) := Lib.hid HC.out.below
      go_wp2_with (go_at_call 44; refine (on_row i wr (HR.out.below (hBw.out.mono HB.out)) (Nat.le_trans HB.out hBw.out.size) HOK.out hil).mono ?_; rintro e w2 ⟨v, rfl, ho, hb2⟩; obtain ⟨Ao, co, rfl⟩ := own_form ho; have HO := Lib.hid ho; have HB2 := Lib.hid hb2; clear ho hb2)
      have hC2 : Hid (ComeAt w w2 w.heap.size (w.heap.size + 1) A2 c2 ws2 S (some ⟨g, 0, none⟩) cw rk) := Lib.hid (HC1.out.lower HB2.out)
      have hO2 : Hid (OnAt w2 wr.heap.size Ao co (onN code i) (some ⟨g, 0, none⟩)) := Lib.hid ⟨HO.out, fun k hk e => by
        obtain rfl : g = k := Option.some.inj hk
        have := (HO.out.lt g (by rw [ownBlock_sl]; exact e)).1
        omega⟩
      have hon2 := on_two (code := code) i
      have HSm := Lib.hid HC.out.set.read
      have hcd2 : Hid (rk.length + 1 ≤ cardN S) := Lib.hid (by have := HCD.out; rw [HLN.out] at this; exact this)
      go_loopw [5, 33] (fun v jv wq => ∃ (j : Nat) (A3 : Option Addr) (c3 : Nat) (ws3 : List Nat) (S3 : Nat) (Aw3 : Option Addr) (cw3 : Nat) (wk3 : List Nat), v = .slice Aw3 wk3.length cw3 ∧ jv = .int .i64 j ∧ j ≤ (onN code i).length ∧ ComeAt w wq w.heap.size (w.heap.size + 1) A3 c3 ws3 S3 Aw3 cw3 wk3 ∧ OnAt wq wr.heap.size Ao co (onN code i) Aw3 ∧ WLMid (onN code) S3 wk3 i j ∧ wk3.length ≤ cardN S3 ∧ todo N S3 wk3.length < todo N S (rk.length + 1)) (fun _ jv _ => (onN code i).length - (intOf jv).toNat)
      case atStart => exact ⟨0, A2, c2, ws2, S, _, cw, rk, rfl, rfl, by omega, hC2.out, hO2.out, HM0.out, by have := hcd2.out; omega, by unfold todo; omega⟩
      case round =>
        obtain ⟨j, A3, c3, ws3, S3, Aw3, cw3, wk3, rfl, rfl, hj, hC3, hO3, hM3, hcd3, htd3⟩ := hrel
        have HC3 := Lib.hid hC3
        have HO3 := Lib.hid hO3
        have HM3 := Lib.hid hM3
        have HCD3 := Lib.hid hcd3
        have HTD3 := Lib.hid htd3
        have hcl := card_le S3
        have hwl3 : wk3.length ≤ 1048576 := by omega
        clear hC3 hO3 hM3 hcd3 htd3 hcl
        by_cases hlt : j < (onN code i).length
        · obtain ⟨k, hk⟩ := get_some hlt
          obtain ⟨go, rfl, hgol, hcg⟩ := own_num HO3.out.row rfl hk
          have hkl := on_lt HOK.out (get_mem' hk)
          have hk20 : k < 1048576 := by omega
          have HK := Lib.hid hk
          clear hk
          have hj2 : (j : Int) < ((onN code i).length : Int) := by omega
          rcases hbit : S3.testBit k with _ | _
          · have HBIT := Lib.hid hbit
            clear hbit
            go_wp2_with first
              | (go_at_call 23; refine (has_set k _ HC3.out.set hk20).mono ?_; rintro e w' ⟨rfl, rfl⟩; rw [HBIT.out])
              | (go_at_call 30; refine (put_set k wr HC3.out.set hk20).mono ?_; rintro e w3 ⟨rfl, hp⟩; obtain ⟨A4, c4, ws4, hC4, hO4⟩ := HC3.out.putOn (Nat.le_refl _) HO3.out hp; have HC4 := Lib.hid hC4; have HO4 := Lib.hid hO4; have hbw : w.heap.size ≤ w3.heap.size := hC4.below.size; clear hC4 hO4 hp)
              | (at_builtin; go_must (refine wpList_append_one rfl (.tmp 44) (.tmp 46) _ rfl _ _ w.heap.size 3 i0 _ 1 8 Tryz.underlying28 hi0 iz0 iz1 iz2 rfl (by omega) (.slice Aw3 wk3.length cw3) wk3.length _ (by rfl) _ (by rfl) (by simp) (by rfl) (by simp [Value.oneCell']) (by exact HC4.out.row) (by simp only [maxLen]; omega) (by omega) hbw ?_); intro g1 k1 w4 ho hg hat hbg hgl; have HC5 := Lib.hid (HC4.out.push (Nat.le_refl _) ho hg); have HO5 := Lib.hid (HO4.out.grown hg hat (Nat.le_refl _)); clear ho hg hat hbg hgl)
              | fail
            have hcp := card_put HBIT.out hk20
            have hM5 := HM3.out.put HK.out
            have hlt5 : (S3 ||| 2 ^ k) < 2 ^ N := lt_of_bits fun x hx => by rw [HN.out]; exact Come.lt HOK.out (Come.clo.2 (hM5.sub x hx))
            have HTP := Lib.hid (todo_put (n := wk3.length) HBIT.out hlt5)
            have HM5 := Lib.hid hM5
            have HCP := Lib.hid hcp
            clear hM5 hlt5 hcp
            go_roundw
            case rel => exact ⟨j + 1, A4, c4, ws4, _, _, k1, wk3 ++ [k], by simp, by go_num, by omega, HC5.out, HO5.out, HM5.out, by rw [HCP.out]; simp only [List.length_append, List.length_cons, List.length_nil]; have := HCD3.out; omega, by simp only [List.length_append, List.length_cons, List.length_nil]; exact Nat.lt_trans HTP.out HTD3.out⟩
            case measure => simp [intOf]; omega
          · have HBIT := Lib.hid hbit
            clear hbit
            go_wp2_with (go_at_call 23; refine (has_set k _ HC3.out.set hk20).mono ?_; rintro e w' ⟨rfl, rfl⟩; rw [HBIT.out])
            go_roundw
            case rel => exact ⟨j + 1, A3, c3, ws3, S3, Aw3, cw3, wk3, rfl, by go_num, by omega, HC3.out, HO3.out, HM3.out.skip HK.out HBIT.out, HCD3.out, HTD3.out⟩
            case measure => simp [intOf]; omega
        · obtain rfl : j = (onN code i).length := by omega
          have hd : decide (((onN code i).length : Int) < ((onN code i).length : Int)) = false := by simp
          go_wp2_with fail
          go_roundw
          case rel => exact ⟨A3, c3, ws3, S3, Aw3, cw3, wk3, rfl, HC3.out, HM3.out.fin (Nat.le_refl _), HCD3.out⟩
          case measure =>
            rw [HC3.out.set.read, HSm.out]
            exact HTD3.out
end Go.Proofs.YtgdnpmpnkbnjaaaGreatDoor
namespace Go.Proofs.YtgdnpmpnkbnjaaaGreatDoor
open Go.RowKit

def namedP (code : List Ins) (R : Nat) (op : Int) : Nat → Nat
  | 0 => 0
  | k + 1 => match code[k]? with
    | some x => if x.op = op ∧ R.testBit k = true then namedP code R op k ||| 2 ^ x.n.toNat else namedP code R op k
    | none => namedP code R op k
def namedM (code : List Ins) (R : Nat) (op : Int) : Nat := namedP code R op code.length
theorem namedP_succ (code : List Ins) (R : Nat) (op : Int) (k : Nat) : namedP code R op (k + 1) = match code[k]? with
    | some x => if x.op = op ∧ R.testBit k = true then namedP code R op k ||| 2 ^ x.n.toNat else namedP code R op k
    | none => namedP code R op k := rfl
theorem namedP_bit (code : List Ins) (R : Nat) (op : Int) : ∀ (k n : Nat), (namedP code R op k).testBit n = true ↔ ∃ i x, i < k ∧ code[i]? = some x ∧ x.op = op ∧ R.testBit i = true ∧ x.n.toNat = n
  | 0, n => by simp [namedP]
  | k + 1, n => by
    have ih := namedP_bit code R op k n
    have hk : ∀ P : Nat → Prop, (∃ i, i < k + 1 ∧ P i) ↔ (∃ i, i < k ∧ P i) ∨ P k := fun P => by
      constructor
      · rintro ⟨i, hi, hp⟩
        rcases Nat.lt_or_ge i k with h | h
        · exact .inl ⟨i, h, hp⟩
        · obtain rfl : i = k := by omega
          exact .inr hp
      · rintro (⟨i, hi, hp⟩ | hp)
        · exact ⟨i, by omega, hp⟩
        · exact ⟨k, by omega, hp⟩
    have key : (∃ i x, i < k + 1 ∧ code[i]? = some x ∧ x.op = op ∧ R.testBit i = true ∧ x.n.toNat = n) ↔ (namedP code R op k).testBit n = true ∨ ∃ x, code[k]? = some x ∧ x.op = op ∧ R.testBit k = true ∧ x.n.toNat = n := by
      rw [ih]
      have := hk fun i => ∃ x, code[i]? = some x ∧ x.op = op ∧ R.testBit i = true ∧ x.n.toNat = n
      constructor
      · rintro ⟨i, x, hi, h⟩
        rcases this.1 ⟨i, hi, x, h⟩ with ⟨i, hi, x, h⟩ | ⟨x, h⟩
        · exact .inl ⟨i, x, hi, h⟩
        · exact .inr ⟨x, h⟩
      · rintro (⟨i, x, hi, h⟩ | ⟨x, h⟩)
        · exact ⟨i, x, by omega, h⟩
        · exact ⟨k, x, by omega, h⟩
    rw [key, namedP_succ]
    rcases hc : code[k]? with _ | y
    · simp
    · by_cases hy : y.op = op ∧ R.testBit k = true
      · simp only [if_pos hy, testBit_put, Bool.or_eq_true, decide_eq_true_iff]
        constructor
        · rintro (h | h)
          · exact .inl h
          · exact .inr ⟨y, rfl, hy.1, hy.2, h⟩
        · rintro (h | ⟨x, hx, _, _, h⟩)
          · exact .inl h
          · obtain rfl := Option.some.inj hx
            exact .inr h
      · simp only [if_neg hy]
        constructor
        · exact .inl
        · rintro (h | ⟨x, hx, h1, h2, _⟩)
          · exact h
          · obtain rfl := Option.some.inj hx
            exact absurd ⟨h1, h2⟩ hy
theorem namedM_bit (code : List Ins) (R : Nat) (op : Int) (n : Nat) : (namedM code R op).testBit n = true ↔ ∃ i x, code[i]? = some x ∧ x.op = op ∧ R.testBit i = true ∧ x.n.toNat = n := by
  unfold namedM
  rw [namedP_bit]
  constructor
  · rintro ⟨i, x, _, h⟩
    exact ⟨i, x, h⟩
  · rintro ⟨i, x, h1, h⟩
    exact ⟨i, x, (List.getElem?_eq_some_iff.1 h1).1, h1, h⟩
theorem namedP_hit {code : List Ins} {R k : Nat} {op : Int} {x : Ins} (hx : code[k]? = some x) (h1 : x.op = op) (h2 : R.testBit k = true) : namedP code R op (k + 1) = namedP code R op k ||| 2 ^ x.n.toNat := by
  rw [namedP_succ, hx]
  exact if_pos ⟨h1, h2⟩
theorem namedP_miss {code : List Ins} {R k : Nat} {op : Int} {x : Ins} (hx : code[k]? = some x) (h : ¬ (x.op = op ∧ R.testBit k = true)) : namedP code R op (k + 1) = namedP code R op k := by
  rw [namedP_succ, hx]
  exact if_neg h
set_option maxRecDepth 100000 in
set_option maxHeartbeats 2000000 in
theorem named_row {B bs b cr R : Nat} {A0 Ar : Option Addr} {c0 : Nat} {code : List Ins} {wsr : List Nat} (op : Int) (w : World) (hr : RdL encI 5 w B A0 code) (hB : B ≤ w.heap.size) (hle : code.length ≤ 4096) (hS : SetAt w bs b Ar cr wsr R)
    (hn : ∀ (i : Nat) (x : Ins), code[i]? = some x → x.op = op → 0 ≤ x.n ∧ x.n < 1048576) (hT : Tab w) (hw : 0 < w.heap.size) :
    Calls Tryz.prog 28 #[.slice A0 code.length c0, .pointer (some ⟨b, 0, none⟩), .int .i64 op] w fun e w' => ∃ v, e = .returned v ∧ w'.ownsRow w.heap.size 3 1 v (listM (namedM code R op)).length ((listM (namedM code R op)).map encN1) ∧ Below w.heap.size w w' := by
  have HR := Lib.hid hr; clear hr
  have HB := Lib.hid hB; clear hB
  have HS := Lib.hid hS; clear hS
  have HNN := Lib.hid hn; clear hn
  have HT := Lib.hid hT; clear hT
  have HW := Lib.hid hw; clear hw
  go_enter Tryz.func28, Tryz.ntmps28
  go_wp2_with (go_at_call 27; refine (new_set [] none 0 w (by simp) (by simp) RdL.nil_).mono ?_; rintro e w1 ⟨A1, c1, ws1, rfl, hst, hbl⟩; have HST := Lib.hid hst; have HBL := Lib.hid hbl; clear hst hbl)
  go_loopw [17] (fun i wr => ∃ (k : Nat) (A1 : Option Addr) (c1 : Nat) (ws1 : List Nat), k ≤ code.length ∧ i = .int .i64 k ∧ SetAt wr w.heap.size w.heap.size A1 c1 ws1 (namedP code R op k) ∧ Below w.heap.size w wr) (fun i _ => code.length - (intOf i).toNat)
  case atStart => exact ⟨0, A1, c1, ws1, by omega, rfl, HST.out, HBL.out⟩
  case round =>
    obtain ⟨k, A2, c2, ws2, hk, rfl, hst, hb⟩ := hrel
    have HST2 := Lib.hid hst
    have HB2 := Lib.hid hb
    clear hst hb
    by_cases hlt : k < code.length
    · obtain ⟨x, hx⟩ := get_some hlt
      obtain ⟨g, off, hA, hg, h0, h1, h2, h3, h4⟩ := (HR.out.below (HB2.out.mono HB.out)).ins hx
      have hgw : g < wr.heap.size := by have := HB2.out.size; have := HB.out; omega
      have HX := Lib.hid hx
      have HSr := Lib.hid (HS.out.foot (Foot.of_below HB2.out) (fun i hi => by have := (HS.out.box.lt); rcases hi with rfl | hi; omega; have := (HS.out.row.lt i (by rw [ownBlock_sl]; exact hi)).2; omega))
      have hxn := HNN.out k x hx
      have HXN := Lib.hid hxn
      clear hx hxn
      rw [hA]
      clear hA
      have hB3 : Hid (Below wr.heap.size wr (wr.alloc (.cells #[.int .i64 x.op, .int .i64 x.a, .int .i64 x.b, .int .i64 x.c, .int .i64 x.n] 53))) := Lib.hid (Below.alloc (Below.refl _ _) (Nat.le_refl _) _)
      have hk1 : (k : Int) < (code.length : Int) := by omega
      have hk2 : k < 1048576 := by omega
      by_cases ho : x.op = op
      · have hd : (x.op == op) = true := by simp [ho]
        have HO := Lib.hid ho
        clear ho
        rcases hbit : R.testBit k with _ | _
        · have HBIT := Lib.hid hbit
          clear hbit
          go_wp2_with (go_at_call 23; refine (has_set k _ (HSr.out.below hB3.out) hk2).mono ?_; rintro e w' ⟨rfl, rfl⟩; rw [HBIT.out])
          go_roundw
          case rel => exact ⟨k + 1, A2, c2, ws2, by omega, by go_num, by rw [namedP_miss HX.out (by rw [HBIT.out]; simp)]; exact HST2.out.below hB3.out, HB2.out.trans (hB3.out.mono HB2.out.size)⟩
          case measure => simp [intOf]; omega
        · have HBIT := Lib.hid hbit
          clear hbit
          obtain ⟨n, hn⟩ : ∃ n : Nat, x.n = (n : Int) := ⟨x.n.toNat, by have := HXN.out HO.out; omega⟩
          have HN := Lib.hid hn
          have hnl : n < 1048576 := by have := HXN.out HO.out; rw [hn] at this; omega
          rw [hn] at h4 hB3
          clear hn
          go_wp2_with first
            | (go_at_call 23; refine (has_set k _ (HSr.out.below hB3.out) hk2).mono ?_; rintro e w' ⟨rfl, rfl⟩; rw [HBIT.out])
            | (go_at_call 30; refine (put_set n _ (HST2.out.below hB3.out) hnl).mono ?_; rintro e w4 ⟨rfl, hp⟩; have HP := Lib.hid hp; clear hp)
            | fail
          obtain ⟨A4, c4, ws4, h5, h6, _⟩ := HP.out
          go_roundw
          case rel => exact ⟨k + 1, A4, c4, ws4, by omega, by go_num, by rw [namedP_hit HX.out HO.out HBIT.out, HN.out, Int.toNat_natCast]; exact h5, foot_base (HST2.out.below hB3.out) (HB2.out.trans (hB3.out.mono HB2.out.size)) (Nat.le_refl _) h6⟩
          case measure => simp [intOf]; omega
      · have hd : (x.op == op) = false := by simp [ho]
        have HO := Lib.hid ho
        clear ho
        go_wp2_with fail
        go_roundw
        case rel => exact ⟨k + 1, A2, c2, ws2, by omega, by go_num, by rw [namedP_miss HX.out (fun h => HO.out h.1)]; exact HST2.out.below hB3.out, HB2.out.trans (hB3.out.mono HB2.out.size)⟩
        case measure => simp [intOf]; omega
    · obtain rfl : k = code.length := by omega
      have hd : decide ((code.length : Int) < (code.length : Int)) = false := by simp
      have hT2 := Lib.hid (HT.out.keep HB2.out HW.out)
      have hw2 := Lib.hid (Nat.lt_of_lt_of_le HW.out HB2.out.size)
      go_wp2_with (go_at_call 36; refine (list_set wr HST2.out hT2.out hw2.out).mono ?_; rintro e w2 ⟨v, rfl, ho, _, hb2⟩; obtain ⟨A', c', rfl⟩ := own_form ho; have HOO := Lib.hid ho; have HB5 := Lib.hid hb2; clear ho hb2)
      go_ret
      exact ⟨_, rfl, own_base HOO.out HB2.out.size, HB2.out.trans (HB5.out.mono HB2.out.size)⟩
end Go.Proofs.YtgdnpmpnkbnjaaaGreatDoor
namespace Go.Proofs.YtgdnpmpnkbnjaaaGreatDoor
open Go.RowKit

/-- a set in memory -/
structure SetD where
  b : Nat
  A : Option Addr
  c : Nat
  ws : List Nat
  S : Nat
def SetD.At (d : SetD) (W : World) (base : Nat) : Prop := SetAt W base d.b d.A d.c d.ws d.S
def SetD.blk (d : SetD) (i : Nat) : Prop := setBlks d.b d.A i
structure Fam (W : World) (base : Nat) (D : List (Option SetD)) : Prop where
  at_ : ∀ (i : Nat) (d : SetD), D[i]? = some (some d) → d.At W base
  apart : ∀ (i j : Nat) (d e : SetD), i ≠ j → D[i]? = some (some d) → D[j]? = some (some e) → ∀ k, d.blk k → ¬ e.blk k
theorem SetAt.blk_lt {W : World} {base b c S : Nat} {A : Option Addr} {ws : List Nat} (h : SetAt W base b A c ws S) {k : Nat} (hk : setBlks b A k) : base ≤ k ∧ k < W.heap.size := by
  rcases hk with rfl | hk
  · exact ⟨h.hb, h.box.lt⟩
  · exact h.row.lt k (by rw [ownBlock_sl]; exact hk)
theorem set_get {α : Type} {D : List α} {i j : Nat} {x y : α} (h : (D.set i x)[j]? = some y) : (i = j ∧ x = y) ∨ (i ≠ j ∧ D[j]? = some y) := by
  by_cases e : i = j
  · subst e
    rcases Nat.lt_or_ge i D.length with hl | hl
    · rw [List.getElem?_set_self hl] at h
      exact .inl ⟨rfl, Option.some.inj h⟩
    · rw [List.getElem?_eq_none (by simpa using hl)] at h
      cases h
  · rw [List.getElem?_set_ne e] at h
    exact .inr ⟨e, h⟩
section
variable {W W' : World} {base : Nat} {D : List (Option SetD)}
theorem Fam.foot {P : Nat → Prop} (h : Fam W base D) (hf : Foot P W W') (hp : ∀ (i : Nat) (d : SetD), D[i]? = some (some d) → ∀ k, d.blk k → ¬ P k) : Fam W' base D :=
  ⟨fun i d hd => (h.at_ i d hd).foot hf (hp i d hd), h.apart⟩
theorem Fam.below (h : Fam W base D) (hb : Below W.heap.size W W') : Fam W' base D := ⟨fun i d hd => (h.at_ i d hd).below hb, h.apart⟩
/-- a set more, or in another's place, all of whose blocks are none of the others' -/
theorem Fam.put (h : Fam W base D) (i : Nat) (d : SetD) (hd : d.At W base) (ha : ∀ (j : Nat) (e : SetD), i ≠ j → D[j]? = some (some e) → ∀ k, d.blk k → ¬ e.blk k) : Fam W base (D.set i (some d)) := by
  refine ⟨fun j e he => ?_, fun j j' e e' hne he he' k hk hk' => ?_⟩
  · rcases set_get he with ⟨rfl, e1⟩ | ⟨_, he⟩
    · obtain rfl := Option.some.inj e1
      exact hd
    · exact h.at_ j e he
  · rcases set_get he with ⟨rfl, e1⟩ | ⟨h1, he⟩ <;> rcases set_get he' with ⟨rfl, e2⟩ | ⟨h2, he'⟩
    · exact hne rfl
    · obtain rfl := Option.some.inj e1
      exact ha j' e' h2 he' k hk hk'
    · obtain rfl := Option.some.inj e2
      exact ha j e h1 he k hk' hk
    · exact h.apart j j' e e' hne he he' k hk hk'
theorem Fam.new (h : Fam W base D) (i : Nat) {b c S : Nat} {A : Option Addr} {ws : List Nat} (hb : Below W.heap.size W W') (hs : SetAt W' W.heap.size b A c ws S) (hB : base ≤ W.heap.size) : Fam W' base (D.set i (some ⟨b, A, c, ws, S⟩)) := by
  refine (h.below hb).put i ⟨b, A, c, ws, S⟩ (hs.base_le hB) fun j e _ he k hk hk' => ?_
  have h1 := (hs.blk_lt hk).1
  have h2 := ((h.at_ j e he).blk_lt hk').2
  omega
/-- what a call that turns one set leaves -/
theorem Fam.post (h : Fam W base D) {i : Nat} {d : SetD} (hd : D[i]? = some (some d)) {S' : Nat} (hp : SetPost base d.b d.A S' W W') : ∃ A' c' ws', Fam W' base (D.set i (some ⟨d.b, A', c', ws', S'⟩)) ∧ Foot d.blk W W' := by
  obtain ⟨A', c', ws', h1, h2, h3⟩ := hp
  have hx : ∀ (j : Nat) (e : SetD), i ≠ j → D[j]? = some (some e) → ∀ k, e.blk k → ¬ d.blk k := fun j e hne he k hk hk' => h.apart i j d e hne hd he k hk' hk
  have hDi : Fam W base (D.set i none) := by
    refine ⟨fun j e he => ?_, fun j j' e e' hne he he' => ?_⟩
    · rcases set_get he with ⟨_, e1⟩ | ⟨_, he⟩
      · cases e1
      · exact h.at_ j e he
    · rcases set_get he with ⟨_, e1⟩ | ⟨_, he⟩
      · cases e1
      · rcases set_get he' with ⟨_, e1⟩ | ⟨_, he'⟩
        · cases e1
        · exact h.apart j j' e e' hne he he'
  have hD2 : Fam W' base (D.set i none) := hDi.foot h2 fun j e he k hk hk' => by
    rcases set_get he with ⟨_, e1⟩ | ⟨hne, he⟩
    · cases e1
    · exact hx j e hne he k hk hk'
  have hD3 := hD2.put i ⟨d.b, A', c', ws', S'⟩ h1 fun j e hne he k hk hk' => by
    rw [List.getElem?_set_ne hne] at he
    have hlt := ((h.at_ j e he).blk_lt hk').2
    rcases hk with rfl | hk
    · exact hx j e hne he _ hk' (.inl rfl)
    · rcases h3 with h3 | ⟨g, h3, hg⟩
      · exact hx j e hne he k hk' (.inr (by rw [← h3]; exact hk))
      · have hk : A'.map (·.block) = some k := hk
        rw [h3] at hk
        injection hk with hk
        omega
  rw [List.set_set] at hD3
  exact ⟨A', c', ws', hD3, h2⟩
end
def ptrO : Option SetD → Value
  | none => .pointer none
  | some d => .pointer (some ⟨d.b, 0, none⟩)
def stO (D : List (Option SetD)) : List (Option Nat) := D.map (Option.map SetD.S)
/-- where held stands: g the row of pointers, os the set that is being carried on -/
structure HeldAt (w0 W : World) (B g cg : Nat) (os : Option SetD) (D : List (Option SetD)) : Prop where
  fam : Fam W B (os :: D)
  row : W.ownsRow B 61 1 (.slice (some ⟨g, 0, none⟩) D.length cg) D.length (D.map ptrO)
  below : Below B w0 W
section
variable {w0 W W' : World} {B g cg : Nat} {os : Option SetD} {D : List (Option SetD)}
theorem HeldAt.size (h : HeldAt w0 W B g cg os D) (hB : B ≤ w0.heap.size) : B ≤ W.heap.size := by have := h.below.size; omega
theorem HeldAt.lower (h : HeldAt w0 W B g cg os D) (hB : B ≤ w0.heap.size) (hb : Below W.heap.size W W') : HeldAt w0 W' B g cg os D :=
  ⟨h.fam.below hb, own_foot h.row (Foot.of_below hb) (fun k hk => by have := (h.row.lt k hk).2; omega), h.below.trans (hb.mono (h.size hB))⟩
theorem HeldAt.get (h : HeldAt w0 W B g cg os D) {k : Nat} {o : Option SetD} (hk : D[k]? = some o) : g < W.heap.size ∧ W.cell? ⟨g, k, none⟩ = some (ptrO o) ∧ W.frozen? ⟨g, k, none⟩ = false := by
  have h1 := h.row.cells (g := g) rfl k (ptrO o) (by rw [List.getElem?_map, hk]; rfl)
  rw [add_plain', Nat.zero_add] at h1
  obtain ⟨cs, hb⟩ := own_blk h.row (g := g) rfl
  exact ⟨hb.lt, h1, hb.frozen k⟩
theorem HeldAt.at_ (h : HeldAt w0 W B g cg os D) {k : Nat} {d : SetD} (hk : D[k]? = some (some d)) : d.At W B := h.fam.at_ (k + 1) d hk
theorem HeldAt.at_s {s : SetD} (h : HeldAt w0 W B g cg (some s) D) : s.At W B := h.fam.at_ 0 s rfl
theorem HeldAt.apart_s {s : SetD} (h : HeldAt w0 W B g cg (some s) D) {k : Nat} {d : SetD} (hk : D[k]? = some (some d)) : ∀ i, s.blk i → ¬ d.blk i := h.fam.apart 0 (k + 1) s d (by omega) rfl hk
theorem HeldAt.row_foot (h : HeldAt w0 W B g cg os D) {d : SetD} (hd : d.At W B) (hf : Foot d.blk W W') : W'.ownsRow B 61 1 (.slice (some ⟨g, 0, none⟩) D.length cg) D.length (D.map ptrO) :=
  own_foot h.row hf fun k hk hP => hd.apart h.row (by decide) (by decide) k hk hP
theorem HeldAt.below_foot (h : HeldAt w0 W B g cg os D) (hB : B ≤ w0.heap.size) {d : SetD} (hd : d.At W B) (hf : Foot d.blk W W') : Below B w0 W' :=
  h.below.trans (Foot.below (hf.mono fun _ _ hi => (hd.blk_lt hi).1) (h.size hB))
/-- the set that is carried on, new -/
theorem HeldAt.carry (h : HeldAt w0 W B g cg os D) (hB : B ≤ w0.heap.size) {b c S : Nat} {A : Option Addr} {ws : List Nat} (hb : Below W.heap.size W W') (hs : SetAt W' W.heap.size b A c ws S) : HeldAt w0 W' B g cg (some ⟨b, A, c, ws, S⟩) D :=
  ⟨h.fam.new 0 hb hs (h.size hB), (h.lower hB hb).row, (h.lower hB hb).below⟩
theorem HeldAt.postS {s : SetD} (h : HeldAt w0 W B g cg (some s) D) (hB : B ≤ w0.heap.size) {S' : Nat} (hp : SetPost B s.b s.A S' W W') : ∃ A' c' ws', HeldAt w0 W' B g cg (some ⟨s.b, A', c', ws', S'⟩) D := by
  obtain ⟨A', c', ws', h1, h2⟩ := h.fam.post (i := 0) (d := s) rfl hp
  exact ⟨A', c', ws', h1, h.row_foot h.at_s h2, h.below_foot hB h.at_s h2⟩
theorem map_set_same {α β : Type} (f : α → β) {l : List α} {k : Nat} {x y : α} (hk : l[k]? = some x) (hf : f y = f x) : (l.set k y).map f = l.map f := by
  rw [List.map_set, hf]
  exact set_same (by rw [List.getElem?_map, hk]; rfl)
theorem HeldAt.postK (h : HeldAt w0 W B g cg os D) (hB : B ≤ w0.heap.size) {k : Nat} {d : SetD} (hk : D[k]? = some (some d)) {S' : Nat} (hp : SetPost B d.b d.A S' W W') : ∃ d', d'.S = S' ∧ HeldAt w0 W' B g cg os (D.set k (some d')) := by
  obtain ⟨A', c', ws', h1, h2⟩ := h.fam.post (i := k + 1) (d := d) hk hp
  refine ⟨⟨d.b, A', c', ws', S'⟩, rfl, h1, ?_, h.below_foot hB (h.at_ hk) h2⟩
  rw [List.length_set, map_set_same (x := some d) (y := some ⟨d.b, A', c', ws', S'⟩) ptrO hk rfl]
  exact h.row_foot (h.at_ hk) h2
theorem HeldAt.store (h : HeldAt w0 W B g cg os D) (hB : B ≤ w0.heap.size) (k : Nat) {b c S : Nat} {A : Option Addr} {ws : List Nat} (hb : Below W.heap.size W W') (hs : SetAt W' W.heap.size b A c ws S) :
    HeldAt w0 (W'.setCell ⟨g, k, none⟩ (.pointer (some ⟨b, 0, none⟩))) B g cg os (D.set k (some ⟨b, A, c, ws, S⟩)) := by
  have h1 := h.fam.new (k + 1) hb hs (h.size hB)
  have h2 := h.lower hB hb
  have hf : Foot (fun i => i = g) W' (W'.setCell ⟨g, k, none⟩ (.pointer (some ⟨b, 0, none⟩))) := Foot.setCell (P := fun i => i = g) (Foot.refl _ _) (.inl rfl) _
  refine ⟨h1.foot hf fun _ d hd j hj e => ?_, ?_, h2.below.trans (Foot.below (hf.mono fun i _ hi => by subst hi; exact (h2.row.lt i rfl).1) (h2.size hB))⟩
  · subst e
    exact (h1.at_ _ d hd).apart h2.row (by decide) (by decide) j rfl hj
  · rw [List.length_set, List.map_set]
    exact own_set' h2.row k _
theorem HeldAt.drop (h : HeldAt w0 W B g cg os D) : HeldAt w0 W B g cg none D := by
  refine ⟨⟨fun i d hd => ?_, fun i j d e hne hd he => ?_⟩, h.row, h.below⟩
  · rcases i with _ | i
    · cases hd
    · exact h.fam.at_ (i + 1) d hd
  · rcases i with _ | i
    · cases hd
    · rcases j with _ | j
      · cases he
      · exact h.fam.apart (i + 1) (j + 1) d e hne hd he
/-- the sets' numbers, read out of memory -/
def rdP (W : World) (g i : Nat) : Option Nat :=
  match W.cell? ⟨g, i, none⟩ with
  | some (.pointer (some a)) => some (readSet W a.block)
  | _ => none
theorem HeldAt.read (h : HeldAt w0 W B g cg os D) {n : Nat} (hn : n = D.length) : (List.range n).map (rdP W g) = stO D := by
  subst hn
  apply List.ext_getElem?
  intro i
  unfold stO
  rw [List.getElem?_map, List.getElem?_map]
  rcases Nat.lt_or_ge i D.length with hi | hi
  · obtain ⟨o, ho⟩ := get_some hi
    rw [List.getElem?_range hi, ho]
    have h1 := (h.get ho).2.1
    simp only [Option.map_some]
    congr 1
    unfold rdP
    rw [h1]
    rcases o with _ | d
    · rfl
    · show some (readSet W d.b) = some d.S
      rw [SetAt.read (h.at_ ho)]
  · rw [List.getElem?_eq_none (by simpa using hi), List.getElem?_eq_none hi]
    rfl
theorem stO_get {k : Nat} {o : Option SetD} (hk : D[k]? = some o) : (stO D)[k]? = some (o.map SetD.S) := by
  unfold stO
  rw [List.getElem?_map, hk]
  rfl
theorem stO_set (D : List (Option SetD)) (k : Nat) (d : SetD) : stO (D.set k (some d)) = (stO D).set k (some d.S) := by
  unfold stO
  rw [List.map_set]
  rfl
theorem stO_inv {D : List (Option SetD)} {k : Nat} {u : Option Nat} (h : (stO D)[k]? = some u) : ∃ o, D[k]? = some o ∧ o.map SetD.S = u := by
  unfold stO at h
  rw [List.getElem?_map] at h
  rcases ho : D[k]? with _ | o
  · rw [ho] at h; cases h
  · rw [ho] at h
    exact ⟨o, rfl, Option.some.inj h⟩
end
end Go.Proofs.YtgdnpmpnkbnjaaaGreatDoor
namespace Go.Proofs.YtgdnpmpnkbnjaaaGreatDoor
open Go.RowKit

theorem and_same {ws wt : List Nat} {S T : Nat} (h : Rep ws S) (ht : Rep wt (S &&& T)) : (((cardN (S &&& T) : Nat) : Int) != ((cardN S : Nat) : Int)) = decide (S &&& T ≠ S) := by
  by_cases e : S &&& T = S
  · rw [e]; simp
  · have hne : cardN (S &&& T) ≠ cardN S := fun hc => e (card_same ht h (fun k hk => by rw [Nat.testBit_and, Bool.and_eq_true] at hk; exact hk.1) hc)
    have h1 : ((cardN (S &&& T) : Nat) : Int) ≠ ((cardN S : Nat) : Int) := by omega
    simp [e, h1]
theorem or_same {ws wt : List Nat} {S T : Nat} (h : Rep ws S) (ht : Rep wt (S ||| T)) : (((cardN (S ||| T) : Nat) : Int) != ((cardN S : Nat) : Int)) = decide (S ||| T ≠ S) := by
  by_cases e : S ||| T = S
  · rw [e]; simp
  · have hne : cardN (S ||| T) ≠ cardN S := fun hc => e (card_same h ht (fun k hk => by rw [Nat.testBit_or, Bool.or_eq_true]; exact .inl hk) hc.symm).symm
    have h1 : ((cardN (S ||| T) : Nat) : Int) ≠ ((cardN S : Nat) : Int) := by omega
    simp [e, h1]
theorem SetPost.alloc {base b S' : Nat} {A : Option Addr} {w w' : World} {o : Obj} (h : SetPost base b A S' (w.alloc o) w') : SetPost base b A S' w w' := by
  obtain ⟨A', c', ws', h1, h2, h3⟩ := h
  refine ⟨A', c', ws', h1, Foot.trans (Foot.alloc (Foot.refl (setBlks b A) w) o) h2 (fun i _ h => h), ?_⟩
  rcases h3 with h3 | ⟨g, e, hg⟩
  · exact .inl h3
  · rw [World.size_alloc] at hg
    exact .inr ⟨g, e, by omega⟩
def MeetFn (f : Nat) (M : Nat → Nat → Nat) : Prop :=
  ∀ ⦃base bs b c S bt ct T : Nat⦄ ⦃A At : Option Addr⦄ ⦃ws wt : List Nat⦄ (w : World), SetAt w base b A c ws S → SetAt w bs bt At ct wt T → (∀ i, setBlks bt At i → ¬ setBlks b A i) →
    Calls Tryz.prog f #[.pointer (some ⟨b, 0, none⟩), .pointer (some ⟨bt, 0, none⟩)] w fun e w' => e = .returned (.bool (decide (M S T ≠ S))) ∧ SetPost base b A (M S T) w w'
set_option maxRecDepth 100000 in
set_option maxHeartbeats 1000000 in
theorem surely_meet : MeetFn 38 (· &&& ·) := by
  intro base bs b c S bt ct T A At ws wt w h ht hne
  have HH := Lib.hid h
  have HT := Lib.hid ht
  have HN := Lib.hid hne
  clear h ht hne
  go_enter Tryz.func38, Tryz.ntmps38
  go_wp2_with first
    | (go_at_call 40; refine (keep_set w HH.out HT.out HN.out).mono ?_; rintro e w2 ⟨rfl, hp⟩; obtain ⟨A2, c2, ws2, hS2, hF2, hA2⟩ := hp; have HS2 := Lib.hid hS2; have HP := Lib.hid (And.intro hF2 hA2); clear hS2 hF2 hA2)
    | (go_at_call 39; refine (len_set w HH.out).mono ?_; rintro e w1 ⟨rfl, hw1⟩; obtain rfl : w = w1 := hw1.symm; rw [HH.out.rep.card])
    | (go_at_call 39; refine (len_set w2 HS2.out).mono ?_; rintro e w1 ⟨rfl, hw1⟩; obtain rfl : w2 = w1 := hw1.symm; rw [HS2.out.rep.card])
    | fail
  go_ret
  exact ⟨ret_bool (and_same HH.out.rep HS2.out.rep), A2, c2, ws2, HS2.out, HP.out.1, HP.out.2⟩
set_option maxRecDepth 100000 in
set_option maxHeartbeats 1000000 in
theorem perhaps_meet : MeetFn 41 (· ||| ·) := by
  intro base bs b c S bt ct T A At ws wt w h ht hne
  have HH := Lib.hid h
  have HT := Lib.hid ht
  have HN := Lib.hid hne
  clear h ht hne
  have hB0 : Hid (Below w.heap.size w (w.alloc (.cells #[.pointer (some ⟨bt, 0, none⟩)] 61))) := Lib.hid (Below.alloc (Below.refl _ _) (Nat.le_refl _) _)
  have hc0 : Hid ((w.alloc (.cells #[.pointer (some ⟨bt, 0, none⟩)] 61)).cell? ⟨w.heap.size, 0, none⟩ = some (.pointer (some ⟨bt, 0, none⟩))) := Lib.hid ((Blk.new w _ _).cell 0)
  have hl0 : Hid (w.heap.size < (w.alloc (.cells #[.pointer (some ⟨bt, 0, none⟩)] 61)).heap.size) := Lib.hid (by simp)
  have hn0 : Hid (¬ setBlks b A w.heap.size) := Lib.hid (fun e => by have := (HH.out.blk_lt e).2; omega)
  go_enter Tryz.func41, Tryz.ntmps41
  go_wp2_with first
    | (go_at_call 42; refine (join_set (go := w.heap.size) _ (HH.out.below hB0.out) (HT.out.below hB0.out) HN.out hc0.out hl0.out hn0.out).mono ?_; rintro e w2 ⟨u, rfl, hp⟩; obtain ⟨A2, c2, ws2, hS2, hF2, hA2⟩ := hp.alloc; have HS2 := Lib.hid hS2; have HP := Lib.hid (And.intro hF2 hA2); clear hp hS2 hF2 hA2)
    | (go_at_call 39; refine (len_set w HH.out).mono ?_; rintro e w1 ⟨rfl, hw1⟩; obtain rfl : w = w1 := hw1.symm; rw [HH.out.rep.card])
    | (go_at_call 39; refine (len_set w2 HS2.out).mono ?_; rintro e w1 ⟨rfl, hw1⟩; obtain rfl : w2 = w1 := hw1.symm; rw [HS2.out.rep.card])
    | fail
  go_ret
  exact ⟨ret_bool (or_same HH.out.rep HS2.out.rep), A2, c2, ws2, HS2.out, HP.out.1, HP.out.2⟩
end Go.Proofs.YtgdnpmpnkbnjaaaGreatDoor
