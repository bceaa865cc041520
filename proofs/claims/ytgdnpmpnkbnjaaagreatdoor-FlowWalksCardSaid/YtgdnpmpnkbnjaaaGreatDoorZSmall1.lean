/- Contract of abreastlaw13.small. Conditions: the package variables are laid. -/
import Derived.Test.YtgdnpmpnkbnjaaaGreatDoorZJ
import Derived.Test.YtgdnpmpnkbnjaaaGreatDoorZK
import Derived.Test.YtgdnpmpnkbnjaaaGreatDoorZTouch
namespace Go.Proofs.YtgdnpmpnkbnjaaaGreatDoor
open Go.RowKit

theorem info_place : (Tryz.prog.info? 120).map (fun i => (i.zero, i.size, i.bytes)) = some (some (.agg #[.int .i64 0, .int .i64 0]), 2, 16) := by kernel_rfl
theorem rdl_blk {α : Type} {enc : α → List Value} {size : Nat} {W : World} {g : Nat} {t : TypeId} {cs : Array Value} {l : List α} (h : Blk W g t cs) (hc : cs.toList = l.flatMap enc) (henc : ∀ x, (enc x).length = size) : RdL enc size W W.heap.size (some ⟨g, 0, none⟩) l := fun _ =>
  ⟨g, 0, rfl, h.lt, fun k x hk j u hu => by
    rw [Nat.zero_add, h.cell, ← flat_get henc l k j x u hk hu, ← hc]
    simp⟩
def smallP (n m : Nat) : Prg :=
  ⟨none, 0, [], none, 0, [], some ⟨n + 2, 0, none⟩, 1, [⟨#[109]⟩], none, 0, [], some ⟨m, 0, none⟩, 1, [⟨⟨#[116]⟩, some ⟨n + 1, 0, none⟩, 5, smallC, some ⟨n + 3, 0, none⟩, 5, List.replicate 5 ⟨0, 0⟩⟩]⟩
theorem smallP_is (n m : Nat) : IsSmall (smallP n m) := ⟨rfl, rfl, rfl, rfl, _, rfl, rfl, rfl, rfl⟩
theorem smallP_fits (n m : Nat) : (smallP n m).Fits := by
  constructor
  all_goals (try simp [smallP])
  · decide
  · refine ⟨?_, ?_, ?_, ?_, ?_⟩ <;> simp [smallC, ByteArray.size]
theorem smallP_ops (n m : Nat) : (smallP n m).Ops := by
  intro t ht x hx
  rw [List.mem_singleton.1 ht] at hx
  simp only [smallC, List.mem_cons, List.not_mem_nil, or_false] at hx
  rcases hx with rfl | rfl | rfl | rfl | rfl <;> rfl
theorem set5_foot (w : World) (g : Nat) (v0 v1 v2 v3 v4 : Value) : Foot (fun i => i = g) w (((((w.setCell ⟨g, 0, none⟩ v0).setCell ⟨g, 1, none⟩ v1).setCell ⟨g, 2, none⟩ v2).setCell ⟨g, 3, none⟩ v3).setCell ⟨g, 4, none⟩ v4) :=
  Foot.setCell (P := fun i => i = g) (p := ⟨g, 4, none⟩) (Foot.setCell (P := fun i => i = g) (p := ⟨g, 3, none⟩) (Foot.setCell (P := fun i => i = g) (p := ⟨g, 2, none⟩) (Foot.setCell (P := fun i => i = g) (p := ⟨g, 1, none⟩) (Foot.setCell (P := fun i => i = g) (p := ⟨g, 0, none⟩) (Foot.refl (fun i => i = g) w) (.inl rfl) v0) (.inl rfl) v1) (.inl rfl) v2) (.inl rfl) v3) (.inl rfl) v4
theorem set5_blk {w : World} {g : Nat} {t : TypeId} {a0 a1 a2 a3 a4 : Value} (h : Blk w g t #[a0, a1, a2, a3, a4]) (v0 v1 v2 v3 v4 : Value) : Blk (((((w.setCell ⟨g, 0, none⟩ v0).setCell ⟨g, 1, none⟩ v1).setCell ⟨g, 2, none⟩ v2).setCell ⟨g, 3, none⟩ v3).setCell ⟨g, 4, none⟩ v4) g t #[v0, v1, v2, v3, v4] :=
  ((((h.set_ 0 v0).set_ 1 v1).set_ 2 v2).set_ 3 v3).set_ 4 v4
theorem size_prg : (Tryz.prog.info? 27).map (·.size) = some 5 := by kernel_rfl
set_option maxRecDepth 100000 in
set_option maxHeartbeats 2000000 in
theorem small_any (w : World) (hgv : GV w.heap.size w) (hT : Tab w) (hw : 0 < w.heap.size) :
    Calls Tryz.prog 18 #[] w fun e w' => ∃ p : Prg, e = .returned p.val ∧ IsSmall p ∧ Env p w' ∧ Below w.heap.size w w' := by
  obtain ⟨i0, hi0, iz0, iz1, iz2⟩ := info_parts info_place
  have HG := Lib.hid hgv; clear hgv
  have HT := Lib.hid hT; clear hT
  have HW := Lib.hid hw; clear hw
  go_enter Tryz.func18, Tryz.ntmps18
  have hX : Hid (∀ X, X = ((w.alloc (.cells #[.slice none 0 0, .slice none 0 0, .slice none 0 0, .slice none 0 0, .slice none 0 0] 27)).alloc (.cells (smallC.flatMap fun x => [Value.int .i64 x.op, .int .i64 x.a, .int .i64 x.b, .int .i64 x.c, .int .i64 x.n]).toArray 53)).alloc (.cells #[.string ⟨#[109]⟩] 9) → Below w.heap.size w X ∧ X.heap.size = w.heap.size + 3 ∧ Blk X w.heap.size 27 #[.slice none 0 0, .slice none 0 0, .slice none 0 0, .slice none 0 0, .slice none 0 0] ∧ Blk X (w.heap.size + 1) 53 (smallC.flatMap fun x => [Value.int .i64 x.op, .int .i64 x.a, .int .i64 x.b, .int .i64 x.c, .int .i64 x.n]).toArray ∧ Blk X (w.heap.size + 2) 9 #[.string ⟨#[109]⟩]) := Lib.hid (by
    rintro X rfl
    exact ⟨by go_grown, by simp, ((Blk.new w _ _).alloc _).alloc _, ((Blk.new _ _ _).alloc _).moved (by simp), (Blk.new _ _ _).moved (by simp)⟩)
  go_wp2_with (refine wpList_make_full _ rfl (.tmp 11) (.tmp 11) 47 rfl w.heap.size 120 i0 _ 2 Tryz.underlying47 hi0 iz0 iz1 .i64 .i64 _ _ 5 rfl rfl rfl rfl (by rw [iz2]; omega) (by simp only [maxLen]; omega) (by simp only [World.size_alloc]; omega) ?_; intro w4 hown hgr; have HO4 := Lib.hid hown; have HG4 := Lib.hid hgr; have HX4 := Lib.hid (hX.out _ rfl); have HP4 := Lib.hid (HX4.out.2.2.1.grown hgr (by simp)); have hl4 := HP4.out.lt; have c0 : w4.cell? ⟨w.heap.size, 0, none⟩ = some (.slice none 0 0) := HP4.out.cell 0; have f0 := HP4.out.frozen 0; have c1 : w4.cell? ⟨w.heap.size, 1, none⟩ = some (.slice none 0 0) := HP4.out.cell 1; have f1 := HP4.out.frozen 1; have c2 : w4.cell? ⟨w.heap.size, 2, none⟩ = some (.slice none 0 0) := HP4.out.cell 2; have f2 := HP4.out.frozen 2; have c3 : w4.cell? ⟨w.heap.size, 3, none⟩ = some (.slice none 0 0) := HP4.out.cell 3; have f3 := HP4.out.frozen 3; have c4 : w4.cell? ⟨w.heap.size, 4, none⟩ = some (.slice none 0 0) := HP4.out.cell 4; have f4 := HP4.out.frozen 4; clear hown hgr)
  have hff := set5_foot w4 w.heap.size (.slice none 0 0) (.slice none 0 0) (.slice (some ⟨w.heap.size + 1 + 1, 0, none⟩) 1 1) (.slice none 0 0) (.slice (some ⟨w4.heap.size, 0, none⟩) 1 1)
  have hbk := set5_blk HP4.out (.slice none 0 0) (.slice none 0 0) (.slice (some ⟨w.heap.size + 1 + 1, 0, none⟩) 1 1) (.slice none 0 0) (.slice (some ⟨w4.heap.size, 0, none⟩) 1 1)
  have hs5 : (((((w4.setCell ⟨w.heap.size, 0, none⟩ (.slice none 0 0)).setCell ⟨w.heap.size, 1, none⟩ (.slice none 0 0)).setCell ⟨w.heap.size, 2, none⟩ (.slice (some ⟨w.heap.size + 1 + 1, 0, none⟩) 1 1)).setCell ⟨w.heap.size, 3, none⟩ (.slice none 0 0)).setCell ⟨w.heap.size, 4, none⟩ (.slice (some ⟨w4.heap.size, 0, none⟩) 1 1)).heap.size = w4.heap.size := by simp [World.setCell]
  generalize ((((w4.setCell ⟨w.heap.size, 0, none⟩ (.slice none 0 0)).setCell ⟨w.heap.size, 1, none⟩ (.slice none 0 0)).setCell ⟨w.heap.size, 2, none⟩ (.slice (some ⟨w.heap.size + 1 + 1, 0, none⟩) 1 1)).setCell ⟨w.heap.size, 3, none⟩ (.slice none 0 0)).setCell ⟨w.heap.size, 4, none⟩ (.slice (some ⟨w4.heap.size, 0, none⟩) 1 1) = w5 at *
  refine bodyPost_ret (v := (smallP w.heap.size w4.heap.size).val) ?_ rfl ?_
  · refine results_cell (p := 0) rfl _ _ w.heap.size 27 _ (0, 0) _ (by rfl) (hbk.alloc _) Tryz.underlying27 rfl size_prg
  obtain ⟨x1, x2, x3, x4, x5⟩ := HX4.out
  have hw4 : Below w.heap.size w w4 := x1.trans ((Foot.of_grown HG4.out).mono (Q := fun i => w.heap.size ≤ i) (fun i _ e => by cases e) |>.below x1.size)
  have hw5 : Below w.heap.size w w5 := hw4.trans ((hff.mono (Q := fun i => w.heap.size ≤ i) (fun i _ e => by omega)).below hw4.size)
  have b1 := (x4.grown HG4.out (by simp)).foot hff (by omega)
  have b2 := (x5.grown HG4.out (by simp)).foot hff (by omega)
  have hrow := own_foot HO4.out hff (fun k hk e => by
    have h3 := Option.some.inj hk
    simp only [World.size_alloc] at h3
    omega)
  have hbl : ∀ o, Below w.heap.size w (w5.alloc o) := fun o => hw5.alloc hw5.size o
  refine ⟨smallP w.heap.size w4.heap.size, rfl, smallP_is _ _, ⟨smallP_fits _ _, ?_, smallP_ops _ _, (HG.out.below (hbl _)).more (hbl _).size, HT.out.keep (hbl _) HW.out, Nat.lt_of_lt_of_le HW.out (hbl _).size⟩, hbl _⟩
  have hp : RdL encP 2 (w5.alloc (.cells #[.string ⟨#[116]⟩, .slice (some ⟨w.heap.size + 1, 0, none⟩) 5 5, .slice (some ⟨w.heap.size + 1 + 1 + 1, 0, none⟩) 5 5] 49)) (w5.alloc (.cells #[.string ⟨#[116]⟩, .slice (some ⟨w.heap.size + 1, 0, none⟩) 5 5, .slice (some ⟨w.heap.size + 1 + 1 + 1, 0, none⟩) 5 5] 49)).heap.size (some ⟨w.heap.size + 3, 0, none⟩) (List.replicate 5 (⟨0, 0⟩ : Pla)) := by
    have hr2 := hrow.alloc (.cells #[.string ⟨#[116]⟩, .slice (some ⟨w.heap.size + 1, 0, none⟩) 5 5, .slice (some ⟨w.heap.size + 1 + 1 + 1, 0, none⟩) 5 5] 49)
    rw [show (madeCells (Value.agg #[Value.int IntKind.i64 0, Value.int IntKind.i64 0]).cells (5 * 2)).toList = (List.replicate 5 (⟨0, 0⟩ : Pla)).flatMap encP by kernel_rfl] at hr2
    obtain ⟨A', c', hv, _, hr3⟩ := RdL.of_own (enc := encP) (fun _ => rfl) rfl hr2
    injection hv with hv _ _
    rw [← hv] at hr3
    simp only [World.size_alloc, Nat.add_assoc, Nat.reduceAdd] at hr3 ⊢
    exact hr3
  have ht5 : Blk (w5.alloc (.cells #[.string ⟨#[116]⟩, .slice (some ⟨w.heap.size + 1, 0, none⟩) 5 5, .slice (some ⟨w.heap.size + 1 + 1 + 1, 0, none⟩) 5 5] 49)) w4.heap.size 49 #[.string ⟨#[116]⟩, .slice (some ⟨w.heap.size + 1, 0, none⟩) 5 5, .slice (some ⟨w.heap.size + 1 + 1 + 1, 0, none⟩) 5 5] := (Blk.new w5 _ _).moved hs5
  refine ⟨RdL.nil_, RdL.nil_, rdl_blk (b2.alloc _) rfl (fun _ => rfl), RdL.nil_, rdl_blk ht5 rfl (fun _ => rfl), fun t ht => ?_⟩
  rw [List.mem_singleton.1 ht]
  exact ⟨rdl_blk (b1.alloc _) (by simp; rfl) (fun _ => rfl), hp⟩
end Go.Proofs.YtgdnpmpnkbnjaaaGreatDoor
