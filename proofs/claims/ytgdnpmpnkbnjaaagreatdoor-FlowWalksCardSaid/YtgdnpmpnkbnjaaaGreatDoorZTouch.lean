/- Contract of flow.touches. Conditions: the code is read, it is code that Check takes, the numbers that are named are ones that a set may hold. -/
import Derived.Test.YtgdnpmpnkbnjaaaGreatDoorZJ
namespace Go.Proofs.YtgdnpmpnkbnjaaaGreatDoor
open Go.RowKit

noncomputable def namedL (code : List Ins) (op : Int) : List Nat := listM (namedM code (comeM code) op)
def SmallN (code : List Ins) : Prop := ∀ (i : Nat) (x : Ins), code[i]? = some x → listOf x.op ≠ 0 → 0 ≤ x.n ∧ x.n < 1048576
/-- what the closure of touches leans on: bc its code, br its set -/
structure TE (W : World) (B bc br : Nat) (A0 : Option Addr) (c0 : Nat) (code : List Ins) (base b : Nat) (Ar : Option Addr) (cr : Nat) (wsr : List Nat) : Prop where
  box : Blk W bc 46 #[.slice A0 code.length c0]
  rbox : Blk W br 61 #[.pointer (some ⟨b, 0, none⟩)]
  rd : RdL encI 5 W B A0 code
  hB : B ≤ W.heap.size
  set : SetAt W base b Ar cr wsr (comeM code)
  tab : Tab W
  pos : 0 < W.heap.size
theorem TE.keep {W W' : World} {B bc br c0 base b cr : Nat} {A0 Ar : Option Addr} {code : List Ins} {wsr : List Nat} (h : TE W B bc br A0 c0 code base b Ar cr wsr) (hb : Below W.heap.size W W') : TE W' B bc br A0 c0 code base b Ar cr wsr :=
  ⟨h.box.below hb h.box.lt, h.rbox.below hb h.rbox.lt, h.rd.below (hb.mono h.hB), Nat.le_trans h.hB hb.size, h.set.below hb, h.tab.keep hb h.pos, Nat.lt_of_lt_of_le h.pos hb.size⟩
set_option maxRecDepth 100000 in
set_option maxHeartbeats 1000000 in
theorem touchOf_any {B bc br c0 base b cr : Nat} {A0 Ar : Option Addr} {code : List Ins} {wsr : List Nat} (op : Int) (w : World) (h : TE w B bc br A0 c0 code base b Ar cr wsr) (hok : OkCode code) (hs : SmallN code) (ho : listOf op ≠ 0) :
    Calls Tryz.prog 34 #[.int .i64 op, .pointer (some ⟨bc, 0, none⟩), .pointer (some ⟨br, 0, none⟩)] w fun e w' => ∃ A c, e = .returned (.slice A (namedL code op).length c) ∧ w'.ownsRow w.heap.size 3 1 (.slice A (namedL code op).length c) (namedL code op).length ((namedL code op).map encN1) ∧ Below w.heap.size w w' := by
  have HH := Lib.hid h
  have h1 := h.box.cell 0
  have h2 := h.rbox.cell 0
  have l1 := h.box.lt
  have l2 := h.rbox.lt
  have HO := Lib.hid ho
  clear h ho
  simp at h1 h2
  go_enter Tryz.func34, Tryz.ntmps34
  go_wp2_with (go_at_call 28; refine (named_row op w HH.out.rd HH.out.hB hok.le HH.out.set (fun i x hx ho => hs i x hx (by rw [ho]; exact HO.out)) HH.out.tab HH.out.pos).mono ?_; rintro e w2 ⟨v, rfl, ho, hb⟩; obtain ⟨A', c', rfl⟩ := own_form ho; have HO2 := Lib.hid ho; have HB2 := Lib.hid hb; clear ho hb)
  go_ret
  exact ⟨A', c', rfl, HO2.out, HB2.out⟩
theorem results_cell {P : Program} {fn : Func} {p : Tmp} {ty : TypeId} (h : fn.results = #[.cell p ty]) (tmps : Array Value) (w : World) (g : Nat) (t' : TypeId) (cs : Array Value) (fr : Nat × Nat) (d : TypeDesc)
    (hp : tmps.getD p undef = .pointer (some ⟨g, 0, none⟩)) (hg : w.heap[g]? = some (.cells cs t' fr))
    (hu : P.underlying ty = some d) (hd : (match d with | .struct _ | .array _ _ => true | _ => false) = true) (hi : (P.info? ty).map (·.size) = some cs.size) :
    (results fn tmps).run P w = .ok (.agg cs) w := by
  have hp' : tmps[p]?.getD undef = .pointer (some ⟨g, 0, none⟩) := by simpa using hp
  simp [results, h, hp', asAddr, run_loadVar_row w g t' ty cs fr d hg hu hd hi]
theorem results_cell_tmp {P : Program} {fn : Func} {t p : Tmp} {ty : TypeId} (h : fn.results = #[.cell p ty, .tmp t]) (tmps : Array Value) (w : World) (g : Nat) (t' : TypeId) (cs : Array Value) (fr : Nat × Nat) (d : TypeDesc)
    (hp : tmps.getD p undef = .pointer (some ⟨g, 0, none⟩)) (hg : w.heap[g]? = some (.cells cs t' fr))
    (hu : P.underlying ty = some d) (hd : (match d with | .struct _ | .array _ _ => true | _ => false) = true) (hi : (P.info? ty).map (·.size) = some cs.size) :
    (results fn tmps).run P w = .ok (.tuple #[.agg cs, tmps.getD t undef]) w := by
  have hp' : tmps[p]?.getD undef = .pointer (some ⟨g, 0, none⟩) := by simpa using hp
  simp [results, h, hp', asAddr, run_loadVar_row w g t' ty cs fr d hg hu hd hi]
theorem size_touch : (Tryz.prog.info? 34).map (·.size) = some 9 := by kernel_rfl
theorem set9 (cs : Array Value) (h : cs.size = 9) (v0 v1 v2 v3 v4 v5 v6 v7 v8 : Value) : ((((((((cs.setIfInBounds 0 v0).setIfInBounds 1 v1).setIfInBounds 2 v2).setIfInBounds 3 v3).setIfInBounds 4 v4).setIfInBounds 5 v5).setIfInBounds 6 v6).setIfInBounds 7 v7).setIfInBounds 8 v8 = #[v0, v1, v2, v3, v4, v5, v6, v7, v8] := by
  obtain ⟨l⟩ := cs
  obtain ⟨a0, l0, rfl⟩ : ∃ a r, l = a :: r := by cases l with | nil => simp at h | cons a r => exact ⟨a, r, rfl⟩
  obtain ⟨a1, l1, rfl⟩ : ∃ a r, l0 = a :: r := by cases l0 with | nil => simp at h | cons a r => exact ⟨a, r, rfl⟩
  obtain ⟨a2, l2, rfl⟩ : ∃ a r, l1 = a :: r := by cases l1 with | nil => simp at h | cons a r => exact ⟨a, r, rfl⟩
  obtain ⟨a3, l3, rfl⟩ : ∃ a r, l2 = a :: r := by cases l2 with | nil => simp at h | cons a r => exact ⟨a, r, rfl⟩
  obtain ⟨a4, l4, rfl⟩ : ∃ a r, l3 = a :: r := by cases l3 with | nil => simp at h | cons a r => exact ⟨a, r, rfl⟩
  obtain ⟨a5, l5, rfl⟩ : ∃ a r, l4 = a :: r := by cases l4 with | nil => simp at h | cons a r => exact ⟨a, r, rfl⟩
  obtain ⟨a6, l6, rfl⟩ : ∃ a r, l5 = a :: r := by cases l5 with | nil => simp at h | cons a r => exact ⟨a, r, rfl⟩
  obtain ⟨a7, l7, rfl⟩ : ∃ a r, l6 = a :: r := by cases l6 with | nil => simp at h | cons a r => exact ⟨a, r, rfl⟩
  obtain ⟨a8, l8, rfl⟩ : ∃ a r, l7 = a :: r := by cases l7 with | nil => simp at h | cons a r => exact ⟨a, r, rfl⟩
  obtain rfl : l8 = [] := by
    cases l8 with
    | nil => rfl
    | cons a r => simp at h
  simp
theorem RdL.side {α : Type} {enc : α → List Value} {size B : Nat} {w w' : World} {P : Nat → Prop} {A : Option Addr} {l : List α} (h : RdL enc size w B A l) (hf : Foot P w w') (hp : ∀ g, A.map (·.block) = some g → ¬ P g) (hB : B ≤ w.heap.size) : RdL enc size w' w'.heap.size A l := fun hn => by
  obtain ⟨g, off, e, hg, hc⟩ := h hn
  exact ⟨g, off, e, by have := hf.size; omega, fun k x hx j u hu => (World.cell?_of_block (hf.block g (by omega) (hp g (by rw [e]; rfl)))).trans (hc k x hx j u hu)⟩
def set9W (w : World) (g : Nat) (v0 v1 v2 v3 v4 v5 v6 v7 v8 : Value) : World :=
  ((((((((w.setCell ⟨g, 0, none⟩ v0).setCell ⟨g, 1, none⟩ v1).setCell ⟨g, 2, none⟩ v2).setCell ⟨g, 3, none⟩ v3).setCell ⟨g, 4, none⟩ v4).setCell ⟨g, 5, none⟩ v5).setCell ⟨g, 6, none⟩ v6).setCell ⟨g, 7, none⟩ v7).setCell ⟨g, 8, none⟩ v8
theorem set9_blk {w : World} {g : Nat} {t : TypeId} {cs : Array Value} (h : Blk w g t cs) (hc : cs.size = 9) (v0 v1 v2 v3 v4 v5 v6 v7 v8 : Value) : Blk (set9W w g v0 v1 v2 v3 v4 v5 v6 v7 v8) g t #[v0, v1, v2, v3, v4, v5, v6, v7, v8] := by
  rw [← set9 cs hc v0 v1 v2 v3 v4 v5 v6 v7 v8]
  exact ((((((((h.set_ 0 v0).set_ 1 v1).set_ 2 v2).set_ 3 v3).set_ 4 v4).set_ 5 v5).set_ 6 v6).set_ 7 v7).set_ 8 v8
theorem set9_foot (w : World) (g : Nat) (v0 v1 v2 v3 v4 v5 v6 v7 v8 : Value) : Foot (fun i => i = g) w (set9W w g v0 v1 v2 v3 v4 v5 v6 v7 v8) :=
  Foot.setCell (P := fun i => i = g) (p := ⟨g, 8, none⟩) (Foot.setCell (P := fun i => i = g) (p := ⟨g, 7, none⟩) (Foot.setCell (P := fun i => i = g) (p := ⟨g, 6, none⟩) (Foot.setCell (P := fun i => i = g) (p := ⟨g, 5, none⟩) (Foot.setCell (P := fun i => i = g) (p := ⟨g, 4, none⟩) (Foot.setCell (P := fun i => i = g) (p := ⟨g, 3, none⟩) (Foot.setCell (P := fun i => i = g) (p := ⟨g, 2, none⟩) (Foot.setCell (P := fun i => i = g) (p := ⟨g, 1, none⟩) (Foot.setCell (P := fun i => i = g) (p := ⟨g, 0, none⟩) (Foot.refl (fun i => i = g) w) (.inl rfl) v0) (.inl rfl) v1) (.inl rfl) v2) (.inl rfl) v3) (.inl rfl) v4) (.inl rfl) v5) (.inl rfl) v6) (.inl rfl) v7) (.inl rfl) v8
def touchV (A : Nat → Option Addr) (c : Nat → Nat) (l : Nat → List Nat) : Value := .agg #[.slice (A 0) (l 0).length (c 0), .slice (A 1) (l 1).length (c 1), .slice (A 2) (l 2).length (c 2), .slice (A 3) (l 3).length (c 3), .slice (A 4) (l 4).length (c 4), .slice (A 5) (l 5).length (c 5), .slice (A 6) (l 6).length (c 6), .slice (A 7) (l 7).length (c 7), .slice (A 8) (l 8).length (c 8)]
def TouchAt (w : World) (B : Nat) (A : Nat → Option Addr) (l : Nat → List Nat) : Prop := ∀ k, k < 9 → RdL encM 1 w B (A k) (l k)
def TouchNew (B : Nat) (A : Nat → Option Addr) : Prop := ∀ k, k < 9 → ∀ g, (A k).map (·.block) = some g → B ≤ g
noncomputable def touchL (code : List Ins) (k : Nat) : List Nat := namedL code (11 + (k : Int))
def pick9 {α : Type} (a0 a1 a2 a3 a4 a5 a6 a7 a8 : α) : Nat → α
  | 0 => a0
  | 1 => a1
  | 2 => a2
  | 3 => a3
  | 4 => a4
  | 5 => a5
  | 6 => a6
  | 7 => a7
  | _ => a8
set_option maxRecDepth 100000 in
set_option maxHeartbeats 4000000 in
theorem touches_any {B : Nat} {A0 : Option Addr} {c0 : Nat} {code : List Ins} (w : World) (hr : RdL encI 5 w B A0 code) (hB : B ≤ w.heap.size) (hok : OkCode code) (hs : SmallN code) (hT : Tab w) (hw : 0 < w.heap.size) :
    Calls Tryz.prog 15 #[.slice A0 code.length c0] w fun e w' => ∃ A c, e = .returned (touchV A c (touchL code)) ∧ (TouchAt w' w'.heap.size A (touchL code) ∧ TouchNew w.heap.size A) ∧ Below w.heap.size w w' := by
  have HR := Lib.hid hr; clear hr
  have HB := Lib.hid hB; clear hB
  have HOK := Lib.hid hok; clear hok
  have HS := Lib.hid hs; clear hs
  have HT := Lib.hid hT; clear hT
  have HW := Lib.hid hw; clear hw
  go_enter Tryz.func15, Tryz.ntmps15
  go_wp2_with fail
  generalize hW : World.alloc _ _ = W0
  have hb0 : Hid (Below w.heap.size w W0) := Lib.hid (by rw [← hW]; go_grown)
  have hsz : Hid (W0.heap.size = w.heap.size + 2) := Lib.hid (by rw [← hW]; simp)
  have hbx : Hid (Blk W0 w.heap.size 46 #[.slice A0 code.length c0]) := Lib.hid (by rw [← hW]; exact (Blk.new w _ _).alloc _)
  have hrx : Hid (∃ cs, cs.size = 9 ∧ Blk W0 (w.heap.size + 1) 34 cs) := Lib.hid ⟨_, rfl, by rw [← hW]; exact (Blk.new _ _ _).moved (by simp)⟩
  clear hW
  refine (come_set W0 (HR.out.below (hb0.out.mono HB.out)) (Nat.le_trans HB.out hb0.out.size) HOK.out).mono ?_
  rintro e w1 ⟨b, Ar, cr, wsr, rfl, hs1, hb1⟩
  have HS1 := Lib.hid hs1
  have HB1 := Lib.hid hb1
  clear hs1 hb1
  go_upto_region 3 with fail
  have hTE : Hid (TE (w1.alloc (.cells #[.pointer (some ⟨b, 0, none⟩)] 61)) B w.heap.size w1.heap.size A0 c0 code W0.heap.size b Ar cr wsr) := Lib.hid (by
    have h2 : Below w1.heap.size w1 (w1.alloc (.cells #[.pointer (some ⟨b, 0, none⟩)] 61)) := Below.alloc (Below.refl _ _) (Nat.le_refl _) _
    have h01 : Below w.heap.size w (w1.alloc (.cells #[.pointer (some ⟨b, 0, none⟩)] 61)) := hb0.out.trans ((HB1.out.trans (h2.mono HB1.out.size)).mono hb0.out.size)
    exact ⟨(hbx.out.below HB1.out hbx.out.lt).alloc _, Blk.new _ _ _, HR.out.below (h01.mono HB.out), Nat.le_trans HB.out h01.size, HS1.out.below h2, HT.out.keep h01 HW.out, Nat.lt_of_lt_of_le HW.out h01.size⟩)
  have hE0 : Hid (Below W0.heap.size W0 (w1.alloc (.cells #[.pointer (some ⟨b, 0, none⟩)] 61))) := Lib.hid (HB1.out.alloc HB1.out.size _)
  generalize w1.alloc (.cells #[.pointer (some ⟨b, 0, none⟩)] 61) = v0 at *
  have hTE0 := hTE
  go_wp2_with fail
  refine (touchOf_any 11 v0 hTE0.out HOK.out HS.out (by decide)).mono ?_
  rintro e v1 ⟨a0, k0, rfl, ho, hb⟩
  have hO0 := Lib.hid ho
  have hB0 := Lib.hid hb
  have hTE1 := Lib.hid (hTE0.out.keep hb)
  have hE1 := Lib.hid (hE0.out.trans (hb.mono hE0.out.size))
  clear ho hb
  go_wp2_with fail
  refine (touchOf_any 12 v1 hTE1.out HOK.out HS.out (by decide)).mono ?_
  rintro e v2 ⟨a1, k1, rfl, ho, hb⟩
  have hO1 := Lib.hid ho
  have hB1 := Lib.hid hb
  have hTE2 := Lib.hid (hTE1.out.keep hb)
  have hE2 := Lib.hid (hE1.out.trans (hb.mono hE1.out.size))
  clear ho hb
  go_wp2_with fail
  refine (touchOf_any 13 v2 hTE2.out HOK.out HS.out (by decide)).mono ?_
  rintro e v3 ⟨a2, k2, rfl, ho, hb⟩
  have hO2 := Lib.hid ho
  have hB2 := Lib.hid hb
  have hTE3 := Lib.hid (hTE2.out.keep hb)
  have hE3 := Lib.hid (hE2.out.trans (hb.mono hE2.out.size))
  clear ho hb
  go_wp2_with fail
  refine (touchOf_any 14 v3 hTE3.out HOK.out HS.out (by decide)).mono ?_
  rintro e v4 ⟨a3, k3, rfl, ho, hb⟩
  have hO3 := Lib.hid ho
  have hB3 := Lib.hid hb
  have hTE4 := Lib.hid (hTE3.out.keep hb)
  have hE4 := Lib.hid (hE3.out.trans (hb.mono hE3.out.size))
  clear ho hb
  go_wp2_with fail
  refine (touchOf_any 15 v4 hTE4.out HOK.out HS.out (by decide)).mono ?_
  rintro e v5 ⟨a4, k4, rfl, ho, hb⟩
  have hO4 := Lib.hid ho
  have hB4 := Lib.hid hb
  have hTE5 := Lib.hid (hTE4.out.keep hb)
  have hE5 := Lib.hid (hE4.out.trans (hb.mono hE4.out.size))
  clear ho hb
  go_wp2_with fail
  refine (touchOf_any 16 v5 hTE5.out HOK.out HS.out (by decide)).mono ?_
  rintro e v6 ⟨a5, k5, rfl, ho, hb⟩
  have hO5 := Lib.hid ho
  have hB5 := Lib.hid hb
  have hTE6 := Lib.hid (hTE5.out.keep hb)
  have hE6 := Lib.hid (hE5.out.trans (hb.mono hE5.out.size))
  clear ho hb
  go_wp2_with fail
  refine (touchOf_any 17 v6 hTE6.out HOK.out HS.out (by decide)).mono ?_
  rintro e v7 ⟨a6, k6, rfl, ho, hb⟩
  have hO6 := Lib.hid ho
  have hB6 := Lib.hid hb
  have hTE7 := Lib.hid (hTE6.out.keep hb)
  have hE7 := Lib.hid (hE6.out.trans (hb.mono hE6.out.size))
  clear ho hb
  go_wp2_with fail
  refine (touchOf_any 18 v7 hTE7.out HOK.out HS.out (by decide)).mono ?_
  rintro e v8 ⟨a7, k7, rfl, ho, hb⟩
  have hO7 := Lib.hid ho
  have hB7 := Lib.hid hb
  have hTE8 := Lib.hid (hTE7.out.keep hb)
  have hE8 := Lib.hid (hE7.out.trans (hb.mono hE7.out.size))
  clear ho hb
  go_wp2_with fail
  refine (touchOf_any 19 v8 hTE8.out HOK.out HS.out (by decide)).mono ?_
  rintro e v9 ⟨a8, k8, rfl, ho, hb⟩
  have hO8 := Lib.hid ho
  have hB8 := Lib.hid hb
  have hTE9 := Lib.hid (hTE8.out.keep hb)
  have hE9 := Lib.hid (hE8.out.trans (hb.mono hE8.out.size))
  clear ho hb
  obtain ⟨cs, hcs, hrb⟩ := hrx.out
  have HRB := Lib.hid (hrb.below hE9.out (by have := hsz.out; omega))
  clear hrb
  have hrl := HRB.out.lt
  have hc0 : v9.cell? ⟨w.heap.size + 1, 0, none⟩ = some (cs[0]'(by omega)) := by rw [HRB.out.cell]; exact Array.getElem?_eq_getElem _
  have hf0 := HRB.out.frozen 0
  have hc1 : v9.cell? ⟨w.heap.size + 1, 1, none⟩ = some (cs[1]'(by omega)) := by rw [HRB.out.cell]; exact Array.getElem?_eq_getElem _
  have hf1 := HRB.out.frozen 1
  have hc2 : v9.cell? ⟨w.heap.size + 1, 2, none⟩ = some (cs[2]'(by omega)) := by rw [HRB.out.cell]; exact Array.getElem?_eq_getElem _
  have hf2 := HRB.out.frozen 2
  have hc3 : v9.cell? ⟨w.heap.size + 1, 3, none⟩ = some (cs[3]'(by omega)) := by rw [HRB.out.cell]; exact Array.getElem?_eq_getElem _
  have hf3 := HRB.out.frozen 3
  have hc4 : v9.cell? ⟨w.heap.size + 1, 4, none⟩ = some (cs[4]'(by omega)) := by rw [HRB.out.cell]; exact Array.getElem?_eq_getElem _
  have hf4 := HRB.out.frozen 4
  have hc5 : v9.cell? ⟨w.heap.size + 1, 5, none⟩ = some (cs[5]'(by omega)) := by rw [HRB.out.cell]; exact Array.getElem?_eq_getElem _
  have hf5 := HRB.out.frozen 5
  have hc6 : v9.cell? ⟨w.heap.size + 1, 6, none⟩ = some (cs[6]'(by omega)) := by rw [HRB.out.cell]; exact Array.getElem?_eq_getElem _
  have hf6 := HRB.out.frozen 6
  have hc7 : v9.cell? ⟨w.heap.size + 1, 7, none⟩ = some (cs[7]'(by omega)) := by rw [HRB.out.cell]; exact Array.getElem?_eq_getElem _
  have hf7 := HRB.out.frozen 7
  have hc8 : v9.cell? ⟨w.heap.size + 1, 8, none⟩ = some (cs[8]'(by omega)) := by rw [HRB.out.cell]; exact Array.getElem?_eq_getElem _
  have hf8 := HRB.out.frozen 8
  go_wp2_with fail
  refine bodyPost_ret (v := .agg #[.slice a0 (namedL code 11).length k0, .slice a1 (namedL code 12).length k1, .slice a2 (namedL code 13).length k2, .slice a3 (namedL code 14).length k3, .slice a4 (namedL code 15).length k4, .slice a5 (namedL code 16).length k5, .slice a6 (namedL code 17).length k6, .slice a7 (namedL code 18).length k7, .slice a8 (namedL code 19).length k8]) ?_ rfl ?_
  · refine results_cell (p := 2) rfl _ _ (w.heap.size + 1) 34 _ (0, 0) _ (by rfl) (set9_blk HRB.out hcs _ _ _ _ _ _ _ _ _) Tryz.underlying34 rfl size_touch
  have hff := set9_foot v9 (w.heap.size + 1) (.slice a0 (namedL code 11).length k0) (.slice a1 (namedL code 12).length k1) (.slice a2 (namedL code 13).length k2) (.slice a3 (namedL code 14).length k3) (.slice a4 (namedL code 15).length k4) (.slice a5 (namedL code 16).length k5) (.slice a6 (namedL code 17).length k6) (.slice a7 (namedL code 18).length k7) (.slice a8 (namedL code 19).length k8)
  have hlow : ∀ (j : Nat) (W : World) (A : Option Addr) (c : Nat) (l : List Nat), W.ownsRow W0.heap.size 3 1 (.slice A l.length c) l.length (l.map encN1) → Below W.heap.size W v9 → RdL encM 1 (set9W v9 (w.heap.size + 1) (.slice a0 (namedL code 11).length k0) (.slice a1 (namedL code 12).length k1) (.slice a2 (namedL code 13).length k2) (.slice a3 (namedL code 14).length k3) (.slice a4 (namedL code 15).length k4) (.slice a5 (namedL code 16).length k5) (.slice a6 (namedL code 17).length k6) (.slice a7 (namedL code 18).length k7) (.slice a8 (namedL code 19).length k8)) (set9W v9 (w.heap.size + 1) (.slice a0 (namedL code 11).length k0) (.slice a1 (namedL code 12).length k1) (.slice a2 (namedL code 13).length k2) (.slice a3 (namedL code 14).length k3) (.slice a4 (namedL code 15).length k4) (.slice a5 (namedL code 16).length k5) (.slice a6 (namedL code 17).length k6) (.slice a7 (namedL code 18).length k7) (.slice a8 (namedL code 19).length k8)).heap.size A l := by
    intro j W A c l ho hb
    have h1 : v9.ownsRow W0.heap.size 3 1 (.slice A l.length c) l.length (l.map encN1) := own_foot ho (Foot.of_below hb) (fun k hk => by have := (ho.lt k hk).2; omega)
    exact own_read (own_foot h1 hff (fun k hk e => by have h3 := (h1.lt k hk).1; have := hsz.out; omega)) rfl
  have hD0 : Below v1.heap.size v1 v9 := (hB1.out.trans (((hB2.out.trans (((hB3.out.trans (((hB4.out.trans (((hB5.out.trans (((hB6.out.trans (((hB7.out.trans ((hB8.out).mono hB7.out.size))).mono hB6.out.size))).mono hB5.out.size))).mono hB4.out.size))).mono hB3.out.size))).mono hB2.out.size))).mono hB1.out.size))
  have hR0 := hlow 0 v1 a0 k0 _ (own_base hO0.out hE0.out.size) hD0
  have hN0 : ∀ g, a0.map (·.block) = some g → w.heap.size ≤ g := fun g e => by have h1 := (hO0.out.lt g (by rw [ownBlock_sl]; exact e)).1; have h2 := hE0.out.size; have h3 := hsz.out; omega
  have hD1 : Below v2.heap.size v2 v9 := (hB2.out.trans (((hB3.out.trans (((hB4.out.trans (((hB5.out.trans (((hB6.out.trans (((hB7.out.trans ((hB8.out).mono hB7.out.size))).mono hB6.out.size))).mono hB5.out.size))).mono hB4.out.size))).mono hB3.out.size))).mono hB2.out.size))
  have hR1 := hlow 1 v2 a1 k1 _ (own_base hO1.out hE1.out.size) hD1
  have hN1 : ∀ g, a1.map (·.block) = some g → w.heap.size ≤ g := fun g e => by have h1 := (hO1.out.lt g (by rw [ownBlock_sl]; exact e)).1; have h2 := hE1.out.size; have h3 := hsz.out; omega
  have hD2 : Below v3.heap.size v3 v9 := (hB3.out.trans (((hB4.out.trans (((hB5.out.trans (((hB6.out.trans (((hB7.out.trans ((hB8.out).mono hB7.out.size))).mono hB6.out.size))).mono hB5.out.size))).mono hB4.out.size))).mono hB3.out.size))
  have hR2 := hlow 2 v3 a2 k2 _ (own_base hO2.out hE2.out.size) hD2
  have hN2 : ∀ g, a2.map (·.block) = some g → w.heap.size ≤ g := fun g e => by have h1 := (hO2.out.lt g (by rw [ownBlock_sl]; exact e)).1; have h2 := hE2.out.size; have h3 := hsz.out; omega
  have hD3 : Below v4.heap.size v4 v9 := (hB4.out.trans (((hB5.out.trans (((hB6.out.trans (((hB7.out.trans ((hB8.out).mono hB7.out.size))).mono hB6.out.size))).mono hB5.out.size))).mono hB4.out.size))
  have hR3 := hlow 3 v4 a3 k3 _ (own_base hO3.out hE3.out.size) hD3
  have hN3 : ∀ g, a3.map (·.block) = some g → w.heap.size ≤ g := fun g e => by have h1 := (hO3.out.lt g (by rw [ownBlock_sl]; exact e)).1; have h2 := hE3.out.size; have h3 := hsz.out; omega
  have hD4 : Below v5.heap.size v5 v9 := (hB5.out.trans (((hB6.out.trans (((hB7.out.trans ((hB8.out).mono hB7.out.size))).mono hB6.out.size))).mono hB5.out.size))
  have hR4 := hlow 4 v5 a4 k4 _ (own_base hO4.out hE4.out.size) hD4
  have hN4 : ∀ g, a4.map (·.block) = some g → w.heap.size ≤ g := fun g e => by have h1 := (hO4.out.lt g (by rw [ownBlock_sl]; exact e)).1; have h2 := hE4.out.size; have h3 := hsz.out; omega
  have hD5 : Below v6.heap.size v6 v9 := (hB6.out.trans (((hB7.out.trans ((hB8.out).mono hB7.out.size))).mono hB6.out.size))
  have hR5 := hlow 5 v6 a5 k5 _ (own_base hO5.out hE5.out.size) hD5
  have hN5 : ∀ g, a5.map (·.block) = some g → w.heap.size ≤ g := fun g e => by have h1 := (hO5.out.lt g (by rw [ownBlock_sl]; exact e)).1; have h2 := hE5.out.size; have h3 := hsz.out; omega
  have hD6 : Below v7.heap.size v7 v9 := (hB7.out.trans ((hB8.out).mono hB7.out.size))
  have hR6 := hlow 6 v7 a6 k6 _ (own_base hO6.out hE6.out.size) hD6
  have hN6 : ∀ g, a6.map (·.block) = some g → w.heap.size ≤ g := fun g e => by have h1 := (hO6.out.lt g (by rw [ownBlock_sl]; exact e)).1; have h2 := hE6.out.size; have h3 := hsz.out; omega
  have hD7 : Below v8.heap.size v8 v9 := hB8.out
  have hR7 := hlow 7 v8 a7 k7 _ (own_base hO7.out hE7.out.size) hD7
  have hN7 : ∀ g, a7.map (·.block) = some g → w.heap.size ≤ g := fun g e => by have h1 := (hO7.out.lt g (by rw [ownBlock_sl]; exact e)).1; have h2 := hE7.out.size; have h3 := hsz.out; omega
  have hD8 : Below v9.heap.size v9 v9 := Below.refl _ _
  have hR8 := hlow 8 v9 a8 k8 _ (own_base hO8.out hE8.out.size) hD8
  have hN8 : ∀ g, a8.map (·.block) = some g → w.heap.size ≤ g := fun g e => by have h1 := (hO8.out.lt g (by rw [ownBlock_sl]; exact e)).1; have h2 := hE8.out.size; have h3 := hsz.out; omega
  refine ⟨pick9 a0 a1 a2 a3 a4 a5 a6 a7 a8, pick9 k0 k1 k2 k3 k4 k5 k6 k7 k8, rfl, ⟨fun k hk => ?_, fun k hk => ?_⟩, (hb0.out.trans (hE9.out.mono hb0.out.size)).trans (hff.mono (Q := fun i => w.heap.size ≤ i) (fun i _ e => by omega) |>.below (by have := hE9.out.size; have := hsz.out; omega))⟩
  have h9 : k = 0 ∨ k = 1 ∨ k = 2 ∨ k = 3 ∨ k = 4 ∨ k = 5 ∨ k = 6 ∨ k = 7 ∨ k = 8 := by omega
  rcases h9 with rfl | rfl | rfl | rfl | rfl | rfl | rfl | rfl | rfl
  · exact hR0
  · exact hR1
  · exact hR2
  · exact hR3
  · exact hR4
  · exact hR5
  · exact hR6
  · exact hR7
  · exact hR8
  have h9 : k = 0 ∨ k = 1 ∨ k = 2 ∨ k = 3 ∨ k = 4 ∨ k = 5 ∨ k = 6 ∨ k = 7 ∨ k = 8 := by omega
  rcases h9 with rfl | rfl | rfl | rfl | rfl | rfl | rfl | rfl | rfl
  · exact hN0
  · exact hN1
  · exact hN2
  · exact hN3
  · exact hN4
  · exact hN5
  · exact hN6
  · exact hN7
  · exact hN8
end Go.Proofs.YtgdnpmpnkbnjaaaGreatDoor
