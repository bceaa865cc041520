/- Contract of abreastlaw13.known: true. Conditions: the package variables are laid. -/
import Derived.Test.YtgdnpmpnkbnjaaaGreatDoorZK
import Derived.Test.YtgdnpmpnkbnjaaaGreatDoorZSmall1
import Derived.Test.YtgdnpmpnkbnjaaaGreatDoorZLocks
namespace Go.Proofs.YtgdnpmpnkbnjaaaGreatDoor
open Go.RowKit

/-- what a call that asks about no program leans on -/
structure Env0 (w : World) : Prop where
  gv : GV w.heap.size w
  tab : Tab w
  pos : 0 < w.heap.size
theorem Env0.keep {w w' : World} (h : Env0 w) (hb : Below w.heap.size w w') : Env0 w' := ⟨(h.gv.below hb).more hb.size, h.tab.keep hb h.pos, Nat.lt_of_lt_of_le h.pos hb.size⟩
theorem Env.env0 {p : Prg} {w : World} (h : Env p w) : Env0 w := ⟨h.gv, h.tab, h.pos⟩
theorem small_asked {p : Prg} (h : IsSmall p) : askedN p 0 = 0 ∧ p.codeAt 0 = smallC := by
  obtain ⟨t, ht, _, hc, _⟩ := h.threads
  refine ⟨asked_of (small_check h) (k := 0) (by rw [ht]; simp), ?_⟩
  have := codeAt_get (p := p) (k := 0) (t := t) (by rw [ht]; rfl)
  rw [← hc]
  exact this
theorem small_reachL {p : Prg} (h : IsSmall p) : reachL p 0 = [0, 1, 2, 3] := by
  obtain ⟨h1, h2⟩ := small_asked h
  unfold reachL
  rw [if_pos h1, h2]
  exact small_comeM h
theorem LL.below {W W' : World} {B : Nat} {A : Option Addr} {ls : List (List Nat)} (h : LL W B A ls) (hb : Below B W W') : LL W' B A ls := by
  intro i l hl
  obtain ⟨g, hA, hg, A', c', hc, hr⟩ := h i l hl
  exact ⟨g, hA, hg, A', c', (hb.cell (p := ⟨g, i, none⟩) hg).trans hc, hr.below hb⟩
theorem LL.more {W : World} {B B' : Nat} {A : Option Addr} {ls : List (List Nat)} (h : LL W B A ls) (hB : B ≤ B') : LL W B' A ls := by
  intro i l hl
  obtain ⟨g, hA, hg, A', c', hc, hr⟩ := h i l hl
  exact ⟨g, hA, by omega, A', c', hc, hr.more hB⟩
theorem LL_blk {W : World} {g : Nat} {t : TypeId} {cs : Array Value} {ls : List (List Nat)} (h : Blk W g t cs) (hc : ∀ (i : Nat) (l : List Nat), ls[i]? = some l → ∃ A c, cs[i]? = some (.slice A l.length c) ∧ RdL encM 1 W W.heap.size A l) : LL W W.heap.size (some ⟨g, 0, none⟩) ls := by
  intro i l hl
  obtain ⟨A, c, h1, h2⟩ := hc i l hl
  exact ⟨g, rfl, h.lt, A, c, by rw [h.cell]; exact h1, h2⟩
theorem lit_zero {W : World} {g : Nat} (h : Blk W g 3 #[.int .i64 0]) : RdL encM 1 W W.heap.size (some ⟨g, 0, none⟩) [0] := rdl_blk h rfl (fun _ => rfl)
theorem LL_surely {W : World} {g g1 g2 : Nat} {t : TypeId} (h1 : Blk W g1 3 #[.int .i64 0]) (h2 : Blk W g2 3 #[.int .i64 0]) (h : Blk W g t #[.slice none 0 0, .slice (some ⟨g1, 0, none⟩) 1 1, .slice (some ⟨g2, 0, none⟩) 1 1, .slice none 0 0, .slice none 0 0]) : LL W W.heap.size (some ⟨g, 0, none⟩) [[], [0], [0], [], []] := by
  refine LL_blk h fun i l hl => ?_
  have hi : i < 5 := (List.getElem?_eq_some_iff.1 hl).1
  have h5 : i = 0 ∨ i = 1 ∨ i = 2 ∨ i = 3 ∨ i = 4 := by omega
  rcases h5 with rfl | rfl | rfl | rfl | rfl
  all_goals
    obtain rfl := Option.some.inj hl
  · exact ⟨none, 0, rfl, RdL.nil_⟩
  · exact ⟨_, 1, rfl, lit_zero h1⟩
  · exact ⟨_, 1, rfl, lit_zero h2⟩
  · exact ⟨none, 0, rfl, RdL.nil_⟩
  · exact ⟨none, 0, rfl, RdL.nil_⟩
theorem LL_perhaps {W : World} {g g1 g2 g3 : Nat} {t : TypeId} (h1 : Blk W g1 3 #[.int .i64 0]) (h2 : Blk W g2 3 #[.int .i64 0]) (h3 : Blk W g3 3 #[.int .i64 0]) (h : Blk W g t #[.slice none 0 0, .slice (some ⟨g1, 0, none⟩) 1 1, .slice (some ⟨g2, 0, none⟩) 1 1, .slice (some ⟨g3, 0, none⟩) 1 1, .slice none 0 0]) : LL W W.heap.size (some ⟨g, 0, none⟩) [[], [0], [0], [0], []] := by
  refine LL_blk h fun i l hl => ?_
  have hi : i < 5 := (List.getElem?_eq_some_iff.1 hl).1
  have h5 : i = 0 ∨ i = 1 ∨ i = 2 ∨ i = 3 ∨ i = 4 := by omega
  rcases h5 with rfl | rfl | rfl | rfl | rfl
  all_goals
    obtain rfl := Option.some.inj hl
  · exact ⟨none, 0, rfl, RdL.nil_⟩
  · exact ⟨_, 1, rfl, lit_zero h1⟩
  · exact ⟨_, 1, rfl, lit_zero h2⟩
  · exact ⟨_, 1, rfl, lit_zero h3⟩
  · exact ⟨none, 0, rfl, RdL.nil_⟩
set_option maxRecDepth 100000 in
set_option maxHeartbeats 2000000 in
theorem known_any (w : World) (hE : Env0 w) : Calls Tryz.prog 6 #[] w fun e w' => e = .returned (.bool true) ∧ Below w.heap.size w w' := by
  have HE := Lib.hid hE; clear hE
  go_enter Tryz.func6, Tryz.ntmps6
  go_wp2_with fail
  refine (small_any w HE.out.gv HE.out.tab HE.out.pos).mono ?_
  rintro e w1 ⟨p1, rfl, hs1, he1, hb1⟩
  have HS1 := Lib.hid hs1
  have HE1 := Lib.hid he1
  have HB1 := Lib.hid hb1
  clear hs1 he1 hb1
  go_wp2_with fail
  refine (reach_any p1 0 w1 HE1.out).mono ?_
  rintro e w2 ⟨A2, c2, rfl, ⟨hr2, _⟩, hb2⟩
  rw [small_reachL HS1.out, (small_asked HS1.out).1] at *
  have HR2 := Lib.hid hr2
  have HB2 := Lib.hid (HB1.out.trans (hb2.mono HB1.out.size))
  clear hr2 hb2
  go_wp2_with fail
  refine (small_any w2 (HE.out.keep HB2.out).gv (HE.out.keep HB2.out).tab (HE.out.keep HB2.out).pos).mono ?_
  rintro e w3 ⟨p3, rfl, hs3, he3, hb3⟩
  have HS3 := Lib.hid hs3
  have HE3 := Lib.hid he3
  have HB3 := Lib.hid hb3
  clear hs3 he3 hb3
  go_wp2_with fail
  refine (surely_any p3 0 w3 HE3.out).mono ?_
  rintro e w4 ⟨A4, c4, ls4, rfl, hl4, hr4n, hb4⟩
  have hr4 := hr4n.ll
  clear hr4n
  have e4 : ls4 = [[], [0], [0], [], []] := (by
    rcases hl4 with ⟨_, st, hst, rfl⟩ | ⟨hne, _⟩
    · rw [(small_asked HS3.out).2] at hst
      exact small_surely hst
    · exact absurd (small_asked HS3.out).1 hne)
  subst e4
  rw [(small_asked HS3.out).1]
  have HR4 := Lib.hid hr4
  have HB4 := Lib.hid (HB3.out.trans (hb4.mono HB3.out.size))
  clear hr4 hb4 hl4
  go_wp2_with fail
  refine (small_any w4 (HE.out.keep (HB2.out.trans (HB4.out.mono HB2.out.size))).gv (HE.out.keep (HB2.out.trans (HB4.out.mono HB2.out.size))).tab (HE.out.keep (HB2.out.trans (HB4.out.mono HB2.out.size))).pos).mono ?_
  rintro e w5 ⟨p5, rfl, hs5, he5, hb5⟩
  have HS5 := Lib.hid hs5
  have HE5 := Lib.hid he5
  have HB5 := Lib.hid hb5
  clear hs5 he5 hb5
  go_wp2_with fail
  refine (perhaps_any p5 0 w5 HE5.out).mono ?_
  rintro e w6 ⟨A6, c6, ls6, rfl, hl6, hr6n, hb6⟩
  have hr6 := hr6n.ll
  clear hr6n
  have e6 : ls6 = [[], [0], [0], [0], []] := (by
    rcases hl6 with ⟨_, st, hst, rfl⟩ | ⟨hne, _⟩
    · rw [(small_asked HS5.out).2] at hst
      exact small_perhaps hst
    · exact absurd (small_asked HS5.out).1 hne)
  subst e6
  rw [(small_asked HS5.out).1]
  have HR6 := Lib.hid hr6
  have HB6 := Lib.hid (HB5.out.trans (hb6.mono HB5.out.size))
  clear hr6 hb6 hl6
  have HBA := Lib.hid (HB2.out.trans ((HB4.out.trans (HB6.out.mono HB4.out.size)).mono HB2.out.size))
  have hl6 : Hid (LL w6 w6.heap.size A4 [[], [0], [0], [], []]) := Lib.hid ((HR4.out.below HB6.out).more HB6.out.size)
  have hl2 : Hid (RdL encM 1 w6 w6.heap.size A2 [0, 1, 2, 3]) := Lib.hid ((HR2.out.below (HB4.out.trans (HB6.out.mono HB4.out.size))).more (HB4.out.trans (HB6.out.mono HB4.out.size)).size)
  go_wp2_with fail
  have hx1 : Below w6.heap.size w6 (w6.alloc (.cells #[.int .i64 0, .int .i64 1, .int .i64 2, .int .i64 3] 3)) := Below.alloc (Below.refl _ _) (Nat.le_refl _) _
  have HX1 := Lib.hid hx1
  clear hx1
  refine (sameInts_any [0, 1, 2, 3] A2 (some ⟨w6.heap.size, 0, none⟩) c2 4 _ ((hl2.out.below HX1.out).more HX1.out.size) (rdl_blk (Blk.new w6 3 #[.int .i64 0, .int .i64 1, .int .i64 2, .int .i64 3]) rfl (fun _ => rfl)) (by decide)).mono ?_
  rintro e w7 ⟨rfl, n7, hw7⟩
  have HX7 := Lib.hid (show Below w6.heap.size w6 w7 by rw [hw7]; exact below_drewN HX1.out _)
  clear hw7
  have hl7 : Hid (LL w7 w7.heap.size A4 [[], [0], [0], [], []]) := Lib.hid ((hl6.out.below HX7.out).more HX7.out.size)
  have hm7 : Hid (LL w7 w7.heap.size A6 [[], [0], [0], [0], []]) := Lib.hid ((HR6.out.below HX7.out).more HX7.out.size)
  go_wp2_with fail
  generalize hW8 : World.alloc _ _ = w8
  have hx8 : Hid (Below w7.heap.size w7 w8 ∧ Blk w8 w7.heap.size 3 #[.int .i64 0] ∧ Blk w8 (w7.heap.size + 1) 3 #[.int .i64 0] ∧ Blk w8 (w7.heap.size + 2) 28 #[.slice none 0 0, .slice (some ⟨w7.heap.size, 0, none⟩) 1 1, .slice (some ⟨w7.heap.size + 1, 0, none⟩) 1 1, .slice none 0 0, .slice none 0 0]) := Lib.hid (by
    rw [← hW8]
    exact ⟨by go_grown, ((Blk.new w7 _ _).alloc _).alloc _, ((Blk.new _ _ _).alloc _).moved (by simp), (Blk.new _ _ _).moved (by simp)⟩)
  clear hW8
  refine (sameLists_any [[], [0], [0], [], []] A4 (some ⟨w7.heap.size + 2, 0, none⟩) c4 5 w8 ((hl7.out.below hx8.out.1).more hx8.out.1.size) (LL_surely hx8.out.2.1 hx8.out.2.2.1 hx8.out.2.2.2) (by decide) (by decide)).mono ?_
  rintro e w9 ⟨rfl, n9, hw9⟩
  have HX9 := Lib.hid (show Below w7.heap.size w7 w9 by rw [hw9]; exact below_drewN hx8.out.1 _)
  clear hw9
  have hm9 : Hid (LL w9 w9.heap.size A6 [[], [0], [0], [0], []]) := Lib.hid ((hm7.out.below HX9.out).more HX9.out.size)
  go_wp2_with fail
  generalize hW10 : World.alloc _ _ = w10
  have hx10 : Hid (Below w9.heap.size w9 w10 ∧ Blk w10 w9.heap.size 3 #[.int .i64 0] ∧ Blk w10 (w9.heap.size + 1) 3 #[.int .i64 0] ∧ Blk w10 (w9.heap.size + 2) 3 #[.int .i64 0] ∧ Blk w10 (w9.heap.size + 3) 28 #[.slice none 0 0, .slice (some ⟨w9.heap.size, 0, none⟩) 1 1, .slice (some ⟨w9.heap.size + 1, 0, none⟩) 1 1, .slice (some ⟨w9.heap.size + 2, 0, none⟩) 1 1, .slice none 0 0]) := Lib.hid (by
    rw [← hW10]
    exact ⟨by go_grown, (((Blk.new w9 _ _).alloc _).alloc _).alloc _, (((Blk.new _ _ _).alloc _).alloc _).moved (by simp), ((Blk.new _ _ _).alloc _).moved (by simp), (Blk.new _ _ _).moved (by simp)⟩)
  clear hW10
  refine (sameLists_any [[], [0], [0], [0], []] A6 (some ⟨w9.heap.size + 3, 0, none⟩) c6 5 w10 ((hm9.out.below hx10.out.1).more hx10.out.1.size) (LL_perhaps hx10.out.2.1 hx10.out.2.2.1 hx10.out.2.2.2.1 hx10.out.2.2.2.2) (by decide) (by decide)).mono ?_
  rintro e w11 ⟨rfl, n11, hw11⟩
  have HX11 := Lib.hid (show Below w9.heap.size w9 w11 by rw [hw11]; exact below_drewN hx10.out.1 _)
  clear hw11
  go_wp2_with fail
  go_ret
  have h1 := HX9.out.trans (HX11.out.mono HX9.out.size)
  have h2 := HX7.out.trans (h1.mono HX7.out.size)
  exact ⟨rfl, HBA.out.trans (h2.mono HBA.out.size)⟩
end Go.Proofs.YtgdnpmpnkbnjaaaGreatDoor
