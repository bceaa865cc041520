/- Words for abreastlaw13.told: what a step may turn, a block of 22 cells that is stored whole. No condition. -/
import Derived.Test.YtgdnpmpnkbnjaaaGreatDoorZLocks
import Derived.Test.YtgdnpmpnkbnjaaaGreatDoorZK
namespace Go.Proofs.YtgdnpmpnkbnjaaaGreatDoor
open Go.RowKit

/-- a step that turns blocks below B and makes new ones, and leaves what lies between -/
def Stp (B : Nat) (W W' : World) : Prop := Foot (fun i => i < B ∨ W.heap.size ≤ i) W W'
section
variable {B : Nat} {W W' W2 : World}
theorem Stp.trans (h : Stp B W W') (k : Stp B W' W2) : Stp B W W2 := by
  have hs : W.heap.size ≤ W'.heap.size := Foot.size h
  exact Foot.trans h k fun i hi hq => by rcases hq with hq | hq; exact .inl hq; exact .inr (by omega)
theorem Stp.of_below (h : Below W.heap.size W W') : Stp B W W' := (Foot.of_below h).mono fun _ _ hi => .inr hi
theorem Stp.refl (B : Nat) (W : World) : Stp B W W := Foot.refl _ _
theorem Stp.of_foot {g : Nat} (h : Foot (fun i => i = g) W W') (hg : g < B) : Stp B W W' := h.mono fun i _ e => .inl (by omega)
theorem Stp.put (h : Stp B W W') {g i : Nat} (hg : g < B) (v : Value) : Stp B W (W'.setCell ⟨g, i, none⟩ v) := Foot.setCell h (.inl (.inl hg)) v
theorem Stp.size (h : Stp B W W') : W.heap.size ≤ W'.heap.size := Foot.size h
theorem RdL.stp {α : Type} {enc : α → List Value} {size : Nat} {A : Option Addr} {l : List α} (h : RdL enc size W W.heap.size A l) (hn : NewA B A) (hf : Stp B W W') : RdL enc size W' W'.heap.size A l := fun hne => by
  obtain ⟨g, off, e, hg, hc⟩ := h hne
  have hB := hn g (by rw [e]; rfl)
  have hs := Stp.size hf
  exact ⟨g, off, e, by omega, fun k x hx j u hu => (World.cell?_of_block (Foot.block hf g (by omega) (by omega))).trans (hc k x hx j u hu)⟩
theorem LLn.stp {A : Option Addr} {ls : List (List Nat)} (h : LLn B W A ls) (hf : Stp B W W') : LLn B W' A ls := by
  intro i l hl
  obtain ⟨g, e, h1, h2, A', c', h3, h4, h5⟩ := h i l hl
  have hs := Stp.size hf
  exact ⟨g, e, h1, by omega, A', c', (World.cell?_of_block (Foot.block hf g (by omega) (by omega))).trans h3, h4.stp h5 hf, h5⟩
theorem NewA.less {B' : Nat} {A : Option Addr} (h : NewA B A) (hB : B' ≤ B) : NewA B' A := fun g e => Nat.le_trans hB (h g e)
theorem TouchNew.less {B' : Nat} {A : Nat → Option Addr} (h : TouchNew B A) (hB : B' ≤ B) : TouchNew B' A := fun k hk g e => Nat.le_trans hB (h k hk g e)
theorem TouchAt.stp {A : Nat → Option Addr} {l : Nat → List Nat} (h : TouchAt W W.heap.size A l) (hn : TouchNew B A) (hf : Stp B W W') : TouchAt W' W'.heap.size A l := fun k hk => (h k hk).stp (hn k hk) hf
end
/-- where told stands: its two boxes and the answer's place, of which cs are the cells -/
structure ToldSt (p : Prg) (w W : World) (cs : Array Value) : Prop where
  below : Below w.heap.size w W
  box : Blk W w.heap.size 27 p.cells
  res : ∃ zs : Array Value, zs.size = 22 ∧ Blk W (w.heap.size + 1) 44 zs
  x : Blk W (w.heap.size + 1 + 1) 44 cs
  len : cs.size = 22
section
variable {p : Prg} {w W W' : World} {cs : Array Value}
theorem ToldSt.call (h : ToldSt p w W cs) (hb : Below W.heap.size W W') : ToldSt p w W' cs := by
  obtain ⟨zs, h1, h2⟩ := h.res
  exact ⟨h.below.trans (hb.mono h.below.size), h.box.below hb h.box.lt, ⟨zs, h1, h2.below hb h2.lt⟩, h.x.below hb h.x.lt, h.len⟩
theorem ToldSt.put (h : ToldSt p w W cs) (i : Nat) (v : Value) : ToldSt p w (W.setCell ⟨w.heap.size + 1 + 1, i, none⟩ v) (cs.setIfInBounds i v) := by
  obtain ⟨zs, h1, h2⟩ := h.res
  have hf : Foot (fun k => k = w.heap.size + 1 + 1) W (W.setCell ⟨w.heap.size + 1 + 1, i, none⟩ v) := Foot.setCell (P := fun k => k = w.heap.size + 1 + 1) (Foot.refl _ _) (.inl rfl) v
  refine ⟨h.below.trans ((hf.mono (Q := fun k => w.heap.size ≤ k) (fun i _ e => by omega)).below h.below.size), h.box.foot hf (by omega), ⟨zs, h1, h2.foot hf (by omega)⟩, h.x.set_ i v, by rw [Array.size_setIfInBounds]; exact h.len⟩
theorem ToldSt.to {cs' : Array Value} (h : ToldSt p w W cs) (e : cs = cs') : ToldSt p w W cs' := e ▸ h
theorem ToldSt.cell (h : ToldSt p w W cs) (i : Nat) (hi : i < 22) : ∃ v, W.cell? ⟨w.heap.size + 1 + 1, i, none⟩ = some v :=
  ⟨cs[i]'(by rw [h.len]; exact hi), by rw [h.x.cell]; exact Array.getElem?_eq_getElem _⟩
theorem ToldSt.frozen (h : ToldSt p w W cs) (i : Nat) : W.frozen? ⟨w.heap.size + 1 + 1, i, none⟩ = false := h.x.frozen i
theorem ToldSt.rcell (h : ToldSt p w W cs) (i : Nat) (hi : i < 22) : ∃ v, W.cell? ⟨w.heap.size + 1, i, none⟩ = some v := by
  obtain ⟨zs, h1, h2⟩ := h.res
  exact ⟨zs[i]'(by rw [h1]; exact hi), by rw [h2.cell]; exact Array.getElem?_eq_getElem _⟩
theorem ToldSt.rfrozen (h : ToldSt p w W cs) (i : Nat) : W.frozen? ⟨w.heap.size + 1, i, none⟩ = false := by
  obtain ⟨zs, h1, h2⟩ := h.res
  exact h2.frozen i
end
theorem setRow_foot (w : World) (g : Nat) (cs : Array Value) : Foot (fun i => i = g) w (w.setRow g cs) :=
  ⟨rfl, rfl, rfl, Nat.le_of_eq (setRow_size w g cs).symm, fun i _ hi => setRow_other w g i cs hi⟩
theorem setRow_blk {w : World} {g : Nat} {t : TypeId} {old : Array Value} (h : Blk w g t old) (cs : Array Value) : Blk (w.setRow g cs) g t cs := setRow_heap w g old cs t (0, 0) h
theorem size_told : (Tryz.prog.info? 44).map (·.size) = some 22 := by kernel_rfl
def set22A (cs : Array Value) (v0 v1 v2 v3 v4 v5 v6 v7 v8 v9 v10 v11 v12 v13 v14 v15 v16 v17 v18 v19 v20 v21 : Value) : Array Value := ((((((((((((((((((((((cs.setIfInBounds 0 v0).setIfInBounds 1 v1).setIfInBounds 2 v2).setIfInBounds 3 v3).setIfInBounds 4 v4).setIfInBounds 5 v5).setIfInBounds 6 v6).setIfInBounds 7 v7).setIfInBounds 8 v8).setIfInBounds 9 v9).setIfInBounds 10 v10).setIfInBounds 11 v11).setIfInBounds 12 v12).setIfInBounds 13 v13).setIfInBounds 14 v14).setIfInBounds 15 v15).setIfInBounds 16 v16).setIfInBounds 17 v17).setIfInBounds 18 v18).setIfInBounds 19 v19).setIfInBounds 20 v20).setIfInBounds 21 v21)
set_option maxHeartbeats 4000000 in
theorem set22 (cs : Array Value) (h : cs.size = 22) (v0 v1 v2 v3 v4 v5 v6 v7 v8 v9 v10 v11 v12 v13 v14 v15 v16 v17 v18 v19 v20 v21 : Value) : set22A cs v0 v1 v2 v3 v4 v5 v6 v7 v8 v9 v10 v11 v12 v13 v14 v15 v16 v17 v18 v19 v20 v21 = #[v0, v1, v2, v3, v4, v5, v6, v7, v8, v9, v10, v11, v12, v13, v14, v15, v16, v17, v18, v19, v20, v21] := by
  unfold set22A
  obtain ⟨l⟩ := cs
  obtain ⟨a0, l0, rfl⟩ : ∃ a r, l = a :: r := by cases l with | nil => simp at h | cons a r => exact ⟨a, r, rfl⟩
  obtain ⟨a1, l1, rfl⟩ : ∃ a r, l0 = a :: r := by cases l0 with | nil => simp at h | cons a r => exact ⟨a, r, rfl⟩
  obtain ⟨a2, l2, rfl⟩ : ∃ a r, l1 = a :: r := by cases l1 with | nil => simp at h | cons a r => exact ⟨a, r, rfl⟩
  obtain ⟨a3, l3, rfl⟩ : ∃ a r, l2 = a :: r := by cases l2 with | nil => simp at h | cons a r => exact ⟨a, r, rfl⟩
  obtain ⟨a4, l4, rfl⟩ : ∃ a r, l3 = a :: r := by cases l3 with | nil => simp at h | cons a r => exact ⟨a, r, rfl⟩
  obtain ⟨a5, l5, rfl⟩ : ∃ a r, l4 = a :: r := by cases l4 with | nil => simp at h | cons a r => exact ⟨a, r, rfl⟩
  obtain ⟨a6, l6, rfl⟩ : ∃ a r, l5 = a :: r := by cases l5 with | nil => simp at h | cons a r => exact ⟨a, r, rfl⟩
  obtain ⟨a7, l7, rfl⟩ : ∃ a r, l6 = a :: r := by cases l6 with | nil => simp at h | cons a r => exact ⟨a, r, rfl⟩
  obtain ⟨a8, l8, rfl⟩ : ∃ a r, l7 = a :: r := by cases l7 with | nil => simp at h | cons a r => exact ⟨a, r, rfl⟩
  obtain ⟨a9, l9, rfl⟩ : ∃ a r, l8 = a :: r := by cases l8 with | nil => simp at h | cons a r => exact ⟨a, r, rfl⟩
  obtain ⟨a10, l10, rfl⟩ : ∃ a r, l9 = a :: r := by cases l9 with | nil => simp at h | cons a r => exact ⟨a, r, rfl⟩
  obtain ⟨a11, l11, rfl⟩ : ∃ a r, l10 = a :: r := by cases l10 with | nil => simp at h | cons a r => exact ⟨a, r, rfl⟩
  obtain ⟨a12, l12, rfl⟩ : ∃ a r, l11 = a :: r := by cases l11 with | nil => simp at h | cons a r => exact ⟨a, r, rfl⟩
  obtain ⟨a13, l13, rfl⟩ : ∃ a r, l12 = a :: r := by cases l12 with | nil => simp at h | cons a r => exact ⟨a, r, rfl⟩
  obtain ⟨a14, l14, rfl⟩ : ∃ a r, l13 = a :: r := by cases l13 with | nil => simp at h | cons a r => exact ⟨a, r, rfl⟩
  obtain ⟨a15, l15, rfl⟩ : ∃ a r, l14 = a :: r := by cases l14 with | nil => simp at h | cons a r => exact ⟨a, r, rfl⟩
  obtain ⟨a16, l16, rfl⟩ : ∃ a r, l15 = a :: r := by cases l15 with | nil => simp at h | cons a r => exact ⟨a, r, rfl⟩
  obtain ⟨a17, l17, rfl⟩ : ∃ a r, l16 = a :: r := by cases l16 with | nil => simp at h | cons a r => exact ⟨a, r, rfl⟩
  obtain ⟨a18, l18, rfl⟩ : ∃ a r, l17 = a :: r := by cases l17 with | nil => simp at h | cons a r => exact ⟨a, r, rfl⟩
  obtain ⟨a19, l19, rfl⟩ : ∃ a r, l18 = a :: r := by cases l18 with | nil => simp at h | cons a r => exact ⟨a, r, rfl⟩
  obtain ⟨a20, l20, rfl⟩ : ∃ a r, l19 = a :: r := by cases l19 with | nil => simp at h | cons a r => exact ⟨a, r, rfl⟩
  obtain ⟨a21, l21, rfl⟩ : ∃ a r, l20 = a :: r := by cases l20 with | nil => simp at h | cons a r => exact ⟨a, r, rfl⟩
  obtain rfl : l21 = [] := by
    cases l21 with
    | nil => rfl
    | cons a r => simp at h
  simp only [List.setIfInBounds_toArray, List.set_cons_zero, List.set_cons_succ]
def set22W (w : World) (g : Nat) (v0 v1 v2 v3 v4 v5 v6 v7 v8 v9 v10 v11 v12 v13 v14 v15 v16 v17 v18 v19 v20 v21 : Value) : World :=
  ((((((((((((((((((((((w.setCell ⟨g, 0, none⟩ v0).setCell ⟨g, 1, none⟩ v1).setCell ⟨g, 2, none⟩ v2).setCell ⟨g, 3, none⟩ v3).setCell ⟨g, 4, none⟩ v4).setCell ⟨g, 5, none⟩ v5).setCell ⟨g, 6, none⟩ v6).setCell ⟨g, 7, none⟩ v7).setCell ⟨g, 8, none⟩ v8).setCell ⟨g, 9, none⟩ v9).setCell ⟨g, 10, none⟩ v10).setCell ⟨g, 11, none⟩ v11).setCell ⟨g, 12, none⟩ v12).setCell ⟨g, 13, none⟩ v13).setCell ⟨g, 14, none⟩ v14).setCell ⟨g, 15, none⟩ v15).setCell ⟨g, 16, none⟩ v16).setCell ⟨g, 17, none⟩ v17).setCell ⟨g, 18, none⟩ v18).setCell ⟨g, 19, none⟩ v19).setCell ⟨g, 20, none⟩ v20).setCell ⟨g, 21, none⟩ v21)
theorem set22_blk {w : World} {g : Nat} {t : TypeId} {cs : Array Value} (h : Blk w g t cs) (hc : cs.size = 22) (v0 v1 v2 v3 v4 v5 v6 v7 v8 v9 v10 v11 v12 v13 v14 v15 v16 v17 v18 v19 v20 v21 : Value) : Blk (set22W w g v0 v1 v2 v3 v4 v5 v6 v7 v8 v9 v10 v11 v12 v13 v14 v15 v16 v17 v18 v19 v20 v21) g t #[v0, v1, v2, v3, v4, v5, v6, v7, v8, v9, v10, v11, v12, v13, v14, v15, v16, v17, v18, v19, v20, v21] := by
  rw [← set22 cs hc v0 v1 v2 v3 v4 v5 v6 v7 v8 v9 v10 v11 v12 v13 v14 v15 v16 v17 v18 v19 v20 v21]
  exact ((((((((((((((((((((((h.set_ 0 v0).set_ 1 v1).set_ 2 v2).set_ 3 v3).set_ 4 v4).set_ 5 v5).set_ 6 v6).set_ 7 v7).set_ 8 v8).set_ 9 v9).set_ 10 v10).set_ 11 v11).set_ 12 v12).set_ 13 v13).set_ 14 v14).set_ 15 v15).set_ 16 v16).set_ 17 v17).set_ 18 v18).set_ 19 v19).set_ 20 v20).set_ 21 v21)
theorem set22_foot (w : World) (g : Nat) (v0 v1 v2 v3 v4 v5 v6 v7 v8 v9 v10 v11 v12 v13 v14 v15 v16 v17 v18 v19 v20 v21 : Value) : Foot (fun i => i = g) w (set22W w g v0 v1 v2 v3 v4 v5 v6 v7 v8 v9 v10 v11 v12 v13 v14 v15 v16 v17 v18 v19 v20 v21) :=
  (Foot.setCell (P := fun i => i = g) (p := ⟨g, 21, none⟩) (Foot.setCell (P := fun i => i = g) (p := ⟨g, 20, none⟩) (Foot.setCell (P := fun i => i = g) (p := ⟨g, 19, none⟩) (Foot.setCell (P := fun i => i = g) (p := ⟨g, 18, none⟩) (Foot.setCell (P := fun i => i = g) (p := ⟨g, 17, none⟩) (Foot.setCell (P := fun i => i = g) (p := ⟨g, 16, none⟩) (Foot.setCell (P := fun i => i = g) (p := ⟨g, 15, none⟩) (Foot.setCell (P := fun i => i = g) (p := ⟨g, 14, none⟩) (Foot.setCell (P := fun i => i = g) (p := ⟨g, 13, none⟩) (Foot.setCell (P := fun i => i = g) (p := ⟨g, 12, none⟩) (Foot.setCell (P := fun i => i = g) (p := ⟨g, 11, none⟩) (Foot.setCell (P := fun i => i = g) (p := ⟨g, 10, none⟩) (Foot.setCell (P := fun i => i = g) (p := ⟨g, 9, none⟩) (Foot.setCell (P := fun i => i = g) (p := ⟨g, 8, none⟩) (Foot.setCell (P := fun i => i = g) (p := ⟨g, 7, none⟩) (Foot.setCell (P := fun i => i = g) (p := ⟨g, 6, none⟩) (Foot.setCell (P := fun i => i = g) (p := ⟨g, 5, none⟩) (Foot.setCell (P := fun i => i = g) (p := ⟨g, 4, none⟩) (Foot.setCell (P := fun i => i = g) (p := ⟨g, 3, none⟩) (Foot.setCell (P := fun i => i = g) (p := ⟨g, 2, none⟩) (Foot.setCell (P := fun i => i = g) (p := ⟨g, 1, none⟩) (Foot.setCell (P := fun i => i = g) (p := ⟨g, 0, none⟩) (Foot.refl (fun i => i = g) w) (.inl rfl) v0) (.inl rfl) v1) (.inl rfl) v2) (.inl rfl) v3) (.inl rfl) v4) (.inl rfl) v5) (.inl rfl) v6) (.inl rfl) v7) (.inl rfl) v8) (.inl rfl) v9) (.inl rfl) v10) (.inl rfl) v11) (.inl rfl) v12) (.inl rfl) v13) (.inl rfl) v14) (.inl rfl) v15) (.inl rfl) v16) (.inl rfl) v17) (.inl rfl) v18) (.inl rfl) v19) (.inl rfl) v20) (.inl rfl) v21)
end Go.Proofs.YtgdnpmpnkbnjaaaGreatDoor
