/- A list of numbers that is taken from at its head and grown at its end: a slice into a block of the call's own. No condition. -/
import Derived.Test.YtgdnpmpnkbnjaaaGreatDoorZI
import Derived.ArgAppend
namespace Go.Proofs.YtgdnpmpnkbnjaaaGreatDoor
open Go.RowKit

structure Tl (W : World) (base g off cap : Nat) (l : List Nat) : Prop where
  ge : base ≤ g
  blk : ∃ cur : Array Value, Blk W g 3 cur ∧ off + cap ≤ cur.size ∧ ∀ (j x : Nat), l[j]? = some x → cur[off + j]? = some (encN1 x)
  le : l.length ≤ cap
  cap : cap ≤ maxLen
section
variable {W W' : World} {base g off cap : Nat} {l : List Nat}
theorem Tl.lt (h : Tl W base g off cap l) : g < W.heap.size := by
  obtain ⟨cur, hb, _⟩ := h.blk
  exact hb.lt
theorem Tl.cell (h : Tl W base g off cap l) {j x : Nat} (hj : l[j]? = some x) : W.cell? ⟨g, off + j, none⟩ = some (.int .i64 (x : Int)) := by
  obtain ⟨cur, hb, _, hc⟩ := h.blk
  rw [hb.cell (off + j)]
  exact hc j x hj
theorem Tl.foot {P : Nat → Prop} (h : Tl W base g off cap l) (hf : Foot P W W') (hp : ¬ P g) : Tl W' base g off cap l := by
  obtain ⟨cur, hb, hs, hc⟩ := h.blk
  exact ⟨h.ge, ⟨cur, hb.foot hf hp, hs, hc⟩, h.le, h.cap⟩
theorem Tl.below (h : Tl W base g off cap l) (hb : Below W.heap.size W W') : Tl W' base g off cap l :=
  h.foot (Foot.of_below hb) (by have := h.lt; omega)
theorem Tl.rest {x : Nat} (h : Tl W base g off cap (x :: l)) : Tl W base g (off + 1) (cap - 1) l ∧ (cap = 1 → Tl W base g off 0 l) := by
  obtain ⟨cur, hb, hs, hc⟩ := h.blk
  have hl := h.le
  have hm := h.cap
  rw [List.length_cons] at hl
  refine ⟨⟨h.ge, ⟨cur, hb, by omega, fun j y hj => ?_⟩, by omega, by omega⟩, fun e => ⟨h.ge, ⟨cur, hb, by omega, fun j y hj => ?_⟩, by omega, by omega⟩⟩
  · have := hc (j + 1) y (by simpa using hj)
    rw [show off + 1 + j = off + (j + 1) by omega]
    exact this
  · have : j < l.length := (List.getElem?_eq_some_iff.1 hj).1
    omega
theorem Tl.of_own {c : Nat} (h : W.ownsRow base 3 1 (.slice (some ⟨g, 0, none⟩) l.length c) l.length (l.map encN1)) : Tl W base g 0 c l := by
  rcases h.2 with ⟨hv, _⟩ | ⟨g', cap', cur, hv, hb, hh, hnc, hcm, hcs, ht⟩
  · cases hv
  · injection hv with hv h2 h3
    injection hv with hv
    injection hv with hv
    subst hv h3
    refine ⟨hb, ⟨cur, hh, by omega, fun j x hj => ?_⟩, hnc, hcm⟩
    have hlt := (List.getElem?_eq_some_iff.1 hj).1
    have h1 : (cur.toList.take (l.length * 1))[j]? = some (encN1 x) := by rw [ht, List.getElem?_map, hj]; rfl
    rw [List.getElem?_take, if_pos (by omega)] at h1
    rw [Nat.zero_add]
    simpa using h1
theorem Tl.put {k : Nat} (h : Tl W base g off cap l) (hr : l.length + 1 ≤ cap) : Tl (W.setCell ⟨g, off + l.length, none⟩ (encN1 k)) base g off cap (l ++ [k]) := by
  obtain ⟨cur, hb, hs, hc⟩ := h.blk
  refine ⟨h.ge, ⟨_, hb.set_ (off + l.length) (encN1 k), by simpa using hs, fun j x hj => ?_⟩, by simpa using hr, h.cap⟩
  rcases Nat.lt_trichotomy j l.length with h1 | h1 | h1
  · rw [List.getElem?_append_left h1] at hj
    rw [Array.getElem?_setIfInBounds_ne (by omega)]
    exact hc j x hj
  · subst h1
    rw [List.getElem?_append_right (Nat.le_refl _)] at hj
    simp at hj
    subst hj
    rw [Array.getElem?_setIfInBounds_self_of_lt (by omega)]
  · rw [List.getElem?_eq_none (by simp; omega)] at hj
    cases hj
end
/-- one number appended -/
theorem wpList_append_tail {ops : Array Oper} {rest : List Oper} {o : Oper} {a : Act} {Q : Exit → Act → World → Prop} (hgd : o.guard = none) (s x : Operand)
    (ho : o.op = .call { callee := .builtin .append, args := #[s, x], argTypes := #[28, 28] })
    (W : World) (base g off n cap G k : Nat) (l : List Nat) (hs : a.eval s = .slice (some ⟨g, off, none⟩) n cap) (hx : a.eval x = .slice (some ⟨G, 0, none⟩) 1 1) (hG : W.heap.size = G)
    (hT : Tl W base g off cap l) (hn : n = l.length) (hb : n < 2000000) (hB : base ≤ W.heap.size)
    (h : ∀ g' off' cap' w', Tl w' base g' off' cap' (l ++ [k]) → W.grownBy w' (some g) → (g' = g ∨ W.heap.size ≤ g') → wpList Tryz.prog ops Q rest (a.put o.dst (.slice (some ⟨g', off', none⟩) (n + 1) cap')) w') :
    wpList Tryz.prog ops Q (o :: rest) a (W.alloc (.cells #[.int .i64 (k : Int)] 3)) := by
  obtain ⟨i0, hi0, iz0, iz1, iz2⟩ := info_parts info_int
  subst hG hn
  have hT1 := hT.below (W' := W.alloc (.cells #[.int .i64 (k : Int)] 3)) (Below.alloc (Below.refl _ _) (Nat.le_refl _) _)
  have hlt := hT.lt
  refine wpList_append_arg _ hgd s x 28 ho 3 i0 _ 1 8 Tryz.underlying28 hi0 iz0 iz1 iz2 rfl (by omega) g off l.length cap (l.map encN1) hs (by simp) (fun j u hu => ?_) ⟨W.heap.size, 0, none⟩ 1 1 [encN1 k] hx rfl (fun j u hu => ?_) (by simp [encN1, Value.oneCell']) (fun hr j hj => ?_) (by simp only [maxLen]; omega) (by omega) (fun hr => ?_) (fun hr v' w' hown hg => ?_)
  · rw [List.getElem?_map] at hu
    rcases hj : l[j]? with _ | y
    · rw [hj] at hu; cases hu
    · rw [hj] at hu
      obtain rfl := Option.some.inj hu
      exact hT1.cell hj
  · rcases j with _ | j
    · obtain rfl := Option.some.inj hu
      rw [add_plain']
      exact (Blk.new W 3 #[.int .i64 (k : Int)]).cell 0
    · cases hu
  · have hj0 : j = 0 := by simpa using hj
    subst hj0
    obtain ⟨cur, hbk, hcs, _⟩ := hT1.blk
    rw [hbk.cell, Nat.mul_one, Nat.add_zero]
    refine ⟨?_, hbk.frozen _⟩
    rw [Array.getElem?_eq_getElem (by omega)]
    rfl
  · have e : (W.alloc (.cells #[.int .i64 (k : Int)] 3)).setCells g (off + l.length * 1) [encN1 k] = (W.alloc (.cells #[.int .i64 (k : Int)] 3)).setCell ⟨g, off + l.length, none⟩ (encN1 k) := by
      rw [Nat.mul_one]
      rfl
    rw [e]
    refine h g off cap _ (hT1.put hr) ?_ (.inl rfl)
    exact only_setCell (World.grownBy_alloc W _ _) (.inl rfl) _
  · obtain ⟨g', cap', hv, hbg, hgl⟩ := hown.form (by omega)
    subst hv
    have hl : (l ++ [k]).length = l.length + 1 := by simp
    have hm : (l ++ [k]).map encN1 = l.map encN1 ++ [encN1 k] := by simp
    have hbg' : W.heap.size ≤ g' := by rw [World.size_alloc] at hbg; omega
    have ht : Tl w' (W.alloc (.cells #[.int .i64 (k : Int)] 3)).heap.size g' 0 cap' (l ++ [k]) := Tl.of_own (by rw [hl, hm]; exact hown)
    refine h g' 0 cap' w' ⟨by omega, ht.blk, ht.le, ht.cap⟩ ?_ (.inr hbg')
    exact only_grown (World.grownBy_alloc W _ _) hg (fun k e => by cases e)
end Go.Proofs.YtgdnpmpnkbnjaaaGreatDoor
