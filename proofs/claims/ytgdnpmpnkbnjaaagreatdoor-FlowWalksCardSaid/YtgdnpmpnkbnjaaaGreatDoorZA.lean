/- Words for memory, continued: a slice that reads as a list of cells; append onto a row of the call's own, whatever the source (both turned from the kit's page of lemmas to copy); how they fit my word RdL. No condition. The given program's data (api.Program and its parts) as Lean data, and how they lie in memory. No condition. Contract of check.parts: the five lists' names, in new memory. Conditions: the sizes of Prg.Fits. (The five like parts of the walk were printed by a small program.) Contract of check.counts: the first list that has too many things (or no thread). No condition but that the six slices lie in one block. (The like cases were printed by a small program.) Words for package bits: a set of numbers as a struct of a row of words; what a call may turn (a footprint of blocks). No condition. Plain words for package flow: the ways on, what can be come to, sets of numbers as one natural number. No condition. How many bits of a 64-bit number are set, as math/bits.OnesCount64 reckons it. No condition. -/
import Derived.Test.YtgdnpmpnkbnjaaaGreatDoorZMem
import Derived.Below
import Derived.Laws.OwnMore
import Derived.OwnWalk
import Derived.Laws.Rows
import Derived.Laws.Tables
import Derived.Deep.QuietTactic
import Derived.BigQuiet
namespace Go.Proofs.YtgdnpmpnkbnjaaaGreatDoor
open Go.RowKit

theorem block_of_add (a : Addr) (n : Nat) : (a.add n).block = a.block := by unfold Addr.add; split <;> rfl
theorem add_of_add (a : Addr) (i j : Nat) : (a.add i).add j = a.add (i + j) := by
  unfold Addr.add
  by_cases hi : i = 0 <;> by_cases hj : j = 0 <;> simp [hi, hj, Nat.add_assoc]

def Reads (w : World) (B size : Nat) (A : Option Addr) (n : Nat) (xs : List Value) : Prop :=
  xs.length = n * size ∧ (0 < n → ∃ ad, A = some ad ∧ ad.block < B ∧ ∀ j u, xs[j]? = some u → w.cell? (ad.add j) = some u)

section
variable {w w' : World} {B B' size n : Nat} {A : Option Addr} {xs : List Value}
theorem Reads.none_ : Reads w B size A 0 [] := ⟨by simp, fun h => absurd h (by omega)⟩
theorem Reads.at_ {k : Nat} (h : Reads w B 1 A n xs) (hk : k < n) : ∃ ad u, A = some ad ∧ ad.block < B ∧ xs[k]? = some u ∧ w.cell? (ad.add k) = some u := by
  obtain ⟨ad, e, hb, hc⟩ := h.2 (by omega)
  have hl : k < xs.length := by have := h.1; omega
  exact ⟨ad, xs[k], e, hb, List.getElem?_eq_getElem hl, hc k _ (List.getElem?_eq_getElem hl)⟩
theorem Reads.keep (h : Reads w B size A n xs) (hk : ∀ p : Addr, p.block < B → w'.cell? p = w.cell? p) : Reads w' B size A n xs :=
  ⟨h.1, fun hn => by
    obtain ⟨ad, e, hb, hc⟩ := h.2 hn
    exact ⟨ad, e, hb, fun j u hu => (hk _ (by rw [block_of_add]; exact hb)).trans (hc j u hu)⟩⟩
theorem Reads.more (h : Reads w B size A n xs) (hB : B ≤ B') : Reads w B' size A n xs :=
  ⟨h.1, fun hn => by
    obtain ⟨ad, e, hb, hc⟩ := h.2 hn
    exact ⟨ad, e, by omega, hc⟩⟩
theorem Reads.below (h : Reads w B size A n xs) (hb : Below B w w') : Reads w' B size A n xs := h.keep fun _ hp => hb.cell hp
theorem Reads.drew (h : Reads w B size A n xs) : Reads w.drew B size A n xs := h
theorem Reads.drewN (h : Reads w B size A n xs) (k : Nat) : Reads (w.drewN k) B size A n xs := h
theorem Reads.alloc (h : Reads w B size A n xs) (hB : B ≤ w.heap.size) (o : Obj) : Reads (w.alloc o) B size A n xs := h.keep fun p hp => World.cell?_alloc_lt w o p (by omega)
theorem Reads.setCell (h : Reads w B size A n xs) {p : Addr} (hB : B ≤ p.block) (u : Value) : Reads (w.setCell p u) B size A n xs :=
  h.keep fun q hq => World.cell?_setCell_other w p q u (fun e => by subst e; omega)
theorem Reads.grown (h : Reads w B size A n xs) {row : Option Nat} (hg : w.grownBy w' row) (hB : B ≤ w.heap.size) (hr : ∀ g, row = some g → B ≤ g) : Reads w' B size A n xs :=
  h.keep fun p hp => World.cell?_of_block (hg.block p.block (by omega) (fun e => by have := hr _ e.symm; omega))
theorem Reads.cut (h : Reads w B size A n xs) {k cap : Nat} (hk : k ≤ n) (hc : n ≤ cap) :
    Reads w B size (if cap = k then A else A.map (·.add (k * size))) (n - k) (xs.drop (k * size)) := by
  refine ⟨by rw [List.length_drop, h.1, Nat.sub_mul], fun hn => ?_⟩
  obtain ⟨ad, rfl, hb, hcell⟩ := h.2 (by omega)
  rw [if_neg (by omega)]
  refine ⟨ad.add (k * size), rfl, by rw [block_of_add]; exact hb, fun j u hu => ?_⟩
  rw [add_of_add]
  exact hcell _ u (by rw [← hu, List.getElem?_drop])
theorem Reads.of_own {base : Nat} {e : TypeId} {c : Nat} (h : w.ownsRow base e size (.slice A n c) n xs) : Reads w w.heap.size size A n xs := by
  refine ⟨h.1, fun hn => ?_⟩
  obtain ⟨g, cap, hv, _, hlt⟩ := h.form hn
  have hA : A = some ⟨g, 0, none⟩ := by injection hv
  subst hA
  exact ⟨_, rfl, hlt, h.cells (g := g) rfl⟩
end

section
variable {P : Program} (w : World)

theorem run_append_of_nil (base : Nat) (t ty e : TypeId) (i : TypeInfo) (size : Nat) (ht : P.underlying t = some (.slice e)) (hi : P.info? e = some i)
    (v : Value) (n : Nat) (xs : List Value) (hown : w.ownsRow base e size v n xs) (c : Nat) : (Builtin.append_ #[t, t] ty #[v, .slice none 0 c]).run P w = .ok v w := by
  rcases hown.2 with ⟨rfl, rfl⟩ | ⟨g, cap, cur, rfl, _, _, hnc, _⟩
  · simp [Builtin.append_, run_underlying ht, sizeOf, typeInfo, hi, Builtin.lenOf, Builtin.firstCells]
  · simp [Builtin.append_, run_underlying ht, sizeOf, typeInfo, hi, Builtin.lenOf, Builtin.firstCells, hnc, storeCells]

theorem run_append_any (base : Nat) (t ty e : TypeId) (i : TypeInfo) (z : Value) (size bytes : Nat) (ht : P.underlying t = some (.slice e)) (hi : P.info? e = some i) (hz : i.zero = some z)
    (hsize : i.size = size) (hby : i.bytes = bytes) (hzs : z.cells.size = size) (hsz : 0 < size)
    (v : Value) (n : Nat) (xs : List Value) (hown : w.ownsRow base e size v n xs)
    (B : Nat) (A : Option Addr) (m c : Nat) (news : List Value) (hr : Reads w B size A m news) (h1 : ∀ u ∈ news, u.oneCell' = true)
    (h63 : n + m ≤ maxLen) (hbytes : (n + m) * bytes ≤ 140737488355328) (hbase : base ≤ w.heap.size) :
    ∃ v' w', (Builtin.append_ #[t, t] ty #[v, .slice A m c]).run P w = .ok v' w' ∧ w'.ownsRow base e size v' (n + m) (xs ++ news) ∧ w.grownBy w' v.ownBlock ∧
      (v'.ownBlock = v.ownBlock ∨ v'.ownBlock = some w.heap.size) := by
  rcases A with _ | ad
  · have hm : m = 0 := by
      rcases Nat.eq_zero_or_pos m with h0 | h0
      · exact h0
      · obtain ⟨ad, h, _⟩ := hr.2 h0
        cases h
    subst hm
    have hn : news = [] := List.eq_nil_of_length_eq_zero (by simpa using hr.1)
    subst hn
    exact ⟨v, w, run_append_of_nil w base t ty e i size ht hi v n xs hown c, by simpa using hown, World.grownBy.refl w _, .inl rfl⟩
  · have hcells : ∀ j u, news[j]? = some u → w.cell? (ad.add j) = some u := by
      intro j u hu
      rcases Nat.eq_zero_or_pos m with h0 | h0
      · subst h0
        have hn : news = [] := List.eq_nil_of_length_eq_zero (by simpa using hr.1)
        subst hn
        simp at hu
      · obtain ⟨ad', h, _, hc⟩ := hr.2 h0
        injection h with h
        subst h
        exact hc j u hu
    obtain ⟨v', w', hrun, h2, h3, _, h5⟩ := run_append_own_at (P := P) w base t ty e i z size bytes ht hi hz hsize hby hzs hsz v n xs hown ad m c news hr.1 hcells h1 h63 hbytes hbase
    exact ⟨v', w', hrun, h2, h3, h5⟩

theorem wp_append_any {o : Oper} {a : Act} {K : Act → World → Prop} {Q : Exit → Act → World → Prop} (s x : Operand) (t : TypeId)
    (ho : o.op = .call { callee := .builtin .append, args := #[s, x], argTypes := #[t, t] })
    (base : Nat) (e : TypeId) (i : TypeInfo) (z : Value) (size bytes : Nat) (ht : P.underlying t = some (.slice e)) (hi : P.info? e = some i) (hz : i.zero = some z)
    (hsize : i.size = size) (hby : i.bytes = bytes) (hzs : z.cells.size = size) (hsz : 0 < size)
    (v : Value) (n : Nat) (xs : List Value) (hs : a.eval s = v) (hown : w.ownsRow base e size v n xs)
    (B : Nat) (A : Option Addr) (m c : Nat) (news : List Value) (hx : a.eval x = .slice A m c) (hr : Reads w B size A m news) (h1 : ∀ u ∈ news, u.oneCell' = true)
    (h63 : n + m ≤ maxLen) (hbytes : (n + m) * bytes ≤ 140737488355328) (hbase : base ≤ w.heap.size)
    (h : ∀ v' w', w'.ownsRow base e size v' (n + m) (xs ++ news) → w.grownBy w' v.ownBlock → (v'.ownBlock = v.ownBlock ∨ v'.ownBlock = some w.heap.size) → K (a.put o.dst v') w') : o.wp P a w K Q := by
  obtain ⟨v', w', hrun, h2, h3, h4⟩ := run_append_any (P := P) w base t o.type e i z size bytes ht hi hz hsize hby hzs hsz v n xs hown B A m c news hr h1 h63 hbytes hbase
  unfold Oper.wp execOp
  simp only [ho, resolve, invoke, builtin, Sem.run_bind, Sem.run_pure, Result.andThen_ok, List.map_toArray, List.map_cons, List.map_nil, hs, hx, hrun]
  exact h v' w' h2 h3 h4

theorem wpList_append_any {ops : Array Oper} {rest : List Oper} {o : Oper} {a : Act} {Q : Exit → Act → World → Prop} (hgd : o.guard = none) (s x : Operand) (t : TypeId)
    (ho : o.op = .call { callee := .builtin .append, args := #[s, x], argTypes := #[t, t] })
    (base : Nat) (e : TypeId) (i : TypeInfo) (z : Value) (size bytes : Nat) (ht : P.underlying t = some (.slice e)) (hi : P.info? e = some i) (hz : i.zero = some z)
    (hsize : i.size = size) (hby : i.bytes = bytes) (hzs : z.cells.size = size) (hsz : 0 < size)
    (v : Value) (n : Nat) (xs : List Value) (hs : a.eval s = v) (hown : w.ownsRow base e size v n xs)
    (B : Nat) (A : Option Addr) (m c : Nat) (news : List Value) (hx : a.eval x = .slice A m c) (hr : Reads w B size A m news) (h1 : ∀ u ∈ news, u.oneCell' = true)
    (h63 : n + m ≤ maxLen) (hbytes : (n + m) * bytes ≤ 140737488355328) (hbase : base ≤ w.heap.size)
    (h : ∀ v' w', w'.ownsRow base e size v' (n + m) (xs ++ news) → w.grownBy w' v.ownBlock → (v'.ownBlock = v.ownBlock ∨ v'.ownBlock = some w.heap.size) → wpList P ops Q rest (a.put o.dst v') w') : wpList P ops Q (o :: rest) a w :=
  wpList_plain hgd fun _ hK => wp_append_any w s x t ho base e i z size bytes ht hi hz hsize hby hzs hsz v n xs hs hown B A m c news hx hr h1 h63 hbytes hbase fun v' w' h2 h3 h4 => hK _ _ (h v' w' h2 h3 h4)

theorem step_append_any {ops : Array Oper} {o : Oper} {a : Act} {K : Act → World → Prop} {Q : Exit → Act → World → Prop} {E : Prop} (hgd : o.guard = none) (s x : Operand) (t : TypeId)
    (ho : o.op = .call { callee := .builtin .append, args := #[s, x], argTypes := #[t, t] })
    (base : Nat) (e : TypeId) (i : TypeInfo) (z : Value) (size bytes : Nat) (ht : P.underlying t = some (.slice e)) (hi : P.info? e = some i) (hz : i.zero = some z)
    (hsize : i.size = size) (hby : i.bytes = bytes) (hzs : z.cells.size = size) (hsz : 0 < size)
    (v : Value) (n : Nat) (xs : List Value) (hs : a.eval s = v) (hown : w.ownsRow base e size v n xs)
    (B : Nat) (A : Option Addr) (m c : Nat) (news : List Value) (hx : a.eval x = .slice A m c) (hr : Reads w B size A m news) (h1 : ∀ u ∈ news, u.oneCell' = true)
    (h63 : n + m ≤ maxLen) (hbytes : (n + m) * bytes ≤ 140737488355328) (hbase : base ≤ w.heap.size)
    (h : ∀ v' w', w'.ownsRow base e size v' (n + m) (xs ++ news) → w.grownBy w' v.ownBlock → (v'.ownBlock = v.ownBlock ∨ v'.ownBlock = some w.heap.size) → K (a.put o.dst v') w') :
    if Region.wanted o (yielded ops a.tmps) = true then Oper.wp P o a w K Q else E := by
  have hw : Region.wanted o (yielded ops a.tmps) = true := by simp [Region.wanted, hgd]
  rw [if_pos hw]
  exact wp_append_any w s x t ho base e i z size bytes ht hi hz hsize hby hzs hsz v n xs hs hown B A m c news hx hr h1 h63 hbytes hbase h
end

section
variable {α : Type} {enc : α → List Value} {size : Nat} {w w' : World} {B B' : Nat} {A : Option Addr} {l : List α}
theorem flat_len (henc : ∀ x, (enc x).length = size) : ∀ l : List α, (l.flatMap enc).length = l.length * size
  | [] => by simp
  | x :: r => by
    have := flat_len henc r
    simp only [List.flatMap_cons, List.length_append, List.length_cons, henc, this, Nat.succ_mul]
    omega
theorem flat_get (henc : ∀ x, (enc x).length = size) : ∀ (l : List α) (k j : Nat) (x : α) (u : Value), l[k]? = some x → (enc x)[j]? = some u → (l.flatMap enc)[k * size + j]? = some u
  | [], k, j, x, u, hk, _ => by simp at hk
  | y :: r, 0, j, x, u, hk, hj => by
    have : y = x := by simpa using hk
    subst this
    have hl : j < (enc y).length := (List.getElem?_eq_some_iff.1 hj).1
    simp only [List.flatMap_cons, Nat.zero_mul, Nat.zero_add]
    rw [List.getElem?_append_left hl]
    exact hj
  | y :: r, k + 1, j, x, u, hk, hj => by
    have h := flat_get henc r k j x u (by simpa using hk) hj
    simp only [List.flatMap_cons]
    rw [List.getElem?_append_right (by rw [henc, Nat.succ_mul]; omega), henc]
    rw [show (k + 1) * size + j - size = k * size + j from by rw [Nat.succ_mul]; omega]
    exact h
theorem flat_inv (henc : ∀ x, (enc x).length = size) : ∀ (l : List α) (i : Nat) (u : Value), (l.flatMap enc)[i]? = some u → ∃ k j x, i = k * size + j ∧ l[k]? = some x ∧ (enc x)[j]? = some u
  | [], i, u, h => by simp at h
  | y :: r, i, u, h => by
    simp only [List.flatMap_cons] at h
    by_cases hi : i < size
    · rw [List.getElem?_append_left (by rw [henc]; exact hi)] at h
      exact ⟨0, i, y, by omega, rfl, h⟩
    · rw [List.getElem?_append_right (by rw [henc]; omega), henc] at h
      obtain ⟨k, j, x, e, hk, hj⟩ := flat_inv henc r _ u h
      exact ⟨k + 1, j, x, by rw [Nat.succ_mul]; omega, by simpa using hk, hj⟩
theorem add_plain' (g off j : Nat) : (⟨g, off, none⟩ : Addr).add j = ⟨g, off + j, none⟩ := by unfold Addr.add; split <;> simp_all
theorem RdL.reads (henc : ∀ x, (enc x).length = size) (h : RdL enc size w B A l) : Reads w B size A l.length (l.flatMap enc) := by
  refine ⟨flat_len henc l, fun hn => ?_⟩
  obtain ⟨g, off, rfl, hg, hc⟩ := h (fun e => by subst e; simp at hn)
  refine ⟨_, rfl, hg, fun i u hu => ?_⟩
  obtain ⟨k, j, x, rfl, hk, hj⟩ := flat_inv henc l i u hu
  rw [add_plain', ← Nat.add_assoc]
  exact hc k x hk j u hj
theorem Reads.rdl (henc : ∀ x, (enc x).length = size) {n : Nat} {g off : Nat} (hn : n = l.length) (h : Reads w B size (some ⟨g, off, none⟩) n (l.flatMap enc)) : RdL enc size w B (some ⟨g, off, none⟩) l := by
  intro hne
  subst hn
  obtain ⟨ad, e, hg, hc⟩ := h.2 (List.length_pos_iff.2 hne)
  injection e with e
  subst e
  refine ⟨g, off, rfl, hg, fun k x hk j u hj => ?_⟩
  have := hc _ u (flat_get henc l k j x u hk hj)
  rw [add_plain', ← Nat.add_assoc] at this
  exact this
/-- a row of the call's own reads as the list that it holds -/
theorem RdL.of_own (henc : ∀ x, (enc x).length = size) {base : Nat} {e : TypeId} {v : Value} {n : Nat} (hn : n = l.length) (h : w.ownsRow base e size v n (l.flatMap enc)) : ∃ A c, v = .slice A n c ∧ n ≤ c ∧ RdL enc size w w.heap.size A l := by
  subst hn
  rcases h.2 with ⟨rfl, h0⟩ | ⟨g, cap, cur, rfl, hb, hh, hnc, hcm, hcs, ht⟩
  · refine ⟨none, 0, by rw [h0], by omega, ?_⟩
    intro hne
    exact absurd (List.eq_nil_of_length_eq_zero h0) hne
  · exact ⟨_, _, rfl, hnc, (Reads.of_own h).rdl henc rfl⟩
end

/-- one element (a row of cells in the block that was made last) appended to a row of the call's own -/
theorem wpList_append_one {P : Program} {ops : Array Oper} {rest : List Oper} {o : Oper} {a : Act} {Q : Exit → Act → World → Prop} (hgd : o.guard = none) (s x : Operand) (t : TypeId)
    (ho : o.op = .call { callee := .builtin .append, args := #[s, x], argTypes := #[t, t] })
    (W : World) (cs : Array Value) (base : Nat) (e : TypeId) (i : TypeInfo) (z : Value) (size bytes : Nat) (ht : P.underlying t = some (.slice e)) (hi : P.info? e = some i) (hz : i.zero = some z)
    (hsize : i.size = size) (hby : i.bytes = bytes) (hzs : z.cells.size = size) (hsz : 0 < size)
    (v : Value) (n : Nat) (xs : List Value) (hs : a.eval s = v) (G : Nat) (hx : a.eval x = .slice (some ⟨G, 0, none⟩) 1 1) (hG : W.heap.size = G) (hcs : cs.toList.length = size) (h1 : ∀ u ∈ cs.toList, u.oneCell' = true)
    (hown : W.ownsRow base e size v n xs) (h63 : n + 1 ≤ maxLen) (hbytes : (n + 1) * bytes ≤ 140737488355328) (hbase : base ≤ W.heap.size)
    (h : ∀ g cap w', w'.ownsRow base e size (.slice (some ⟨g, 0, none⟩) (n + 1) cap) (n + 1) (xs ++ cs.toList) → W.grownBy w' v.ownBlock → (v.ownBlock = some g ∨ g = G + 1) → base ≤ g → g < w'.heap.size → wpList P ops Q rest (a.put o.dst (.slice (some ⟨g, 0, none⟩) (n + 1) cap)) w') :
    wpList P ops Q (o :: rest) a (W.alloc (.cells cs e)) := by
  subst hG
  have hnews : ∀ j u, cs.toList[j]? = some u → (W.alloc (.cells cs e)).cell? ((⟨W.heap.size, 0, none⟩ : Addr).add j) = some u := by
    intro j u hu
    have hadd : (⟨W.heap.size, 0, none⟩ : Addr).add j = ⟨W.heap.size, j, none⟩ := by unfold Addr.add; split <;> simp_all
    rw [hadd, cell_of_row _ _ j cs e (0, 0) (heap_alloc_last W _)]
    simpa using hu
  have hr : Reads (W.alloc (.cells cs e)) (W.heap.size + 1) size (some ⟨W.heap.size, 0, none⟩) 1 cs.toList :=
    ⟨by rw [hcs]; omega, fun _ => ⟨_, rfl, Nat.lt_succ_self _, hnews⟩⟩
  refine wpList_append_any _ hgd s x t ho base e i z size bytes ht hi hz hsize hby hzs hsz v n xs hs (hown.alloc _) (W.heap.size + 1) _ 1 1 cs.toList hx hr h1 h63 hbytes (by simp; omega) ?_
  intro v' w' h2 h3 h4
  obtain ⟨g, cap, hv, hbg, hgl⟩ := h2.form (by omega)
  subst hv
  refine h g cap w' h2 (World.grownBy.trans (World.grownBy_alloc W _ _) h3) ?_ hbg hgl
  rcases h4 with h4 | h4
  · exact .inl (by rw [← h4]; rfl)
  · refine .inr ?_
    simp [Value.ownBlock] at h4
    exact h4
theorem only_alloc {a w : World} {row : Option Nat} (h : a.grownBy w row) (o : Obj) : a.grownBy (w.alloc o) row :=
  ⟨h.os, h.tape, h.output, Nat.le_trans h.size (by simp), fun i hi hne => (Below.heap_alloc w o i (Nat.lt_of_lt_of_le hi h.size)).trans (h.block i hi hne)⟩
theorem only_drewN {a w : World} {row : Option Nat} (h : a.grownBy w row) (n : Nat) : a.grownBy (w.drewN n) row := ⟨h.os, h.tape, h.output, h.size, h.block⟩
theorem only_drew {a w : World} {row : Option Nat} (h : a.grownBy w row) : a.grownBy w.drew row := ⟨h.os, h.tape, h.output, h.size, h.block⟩
theorem only_setCell {a w : World} {g : Nat} (h : a.grownBy w (some g)) {p : Addr} (hp : p.block = g ∨ a.heap.size ≤ p.block) (u : Value) : a.grownBy (w.setCell p u) (some g) :=
  ⟨h.os, h.tape, h.output, by simpa [World.setCell] using h.size, fun i hi hne => (Below.heap_setCell w p u i (by
    rintro rfl
    rcases hp with hp | hp
    · exact hne (by rw [hp])
    · omega)).trans (h.block i hi hne)⟩
theorem only_of_below {a w : World} (h : Below a.heap.size a w) (row : Option Nat) : a.grownBy w row := ⟨h.os, h.tape, h.output, h.size, fun i hi _ => h.block i hi⟩
/-- only block g and what is new has turned: a further growth of a row that is new, or of g -/
theorem only_grown {a w w' : World} {g : Nat} {row : Option Nat} (h : a.grownBy w (some g)) (hg : w.grownBy w' row) (hr : ∀ k, row = some k → k = g ∨ a.heap.size ≤ k) : a.grownBy w' (some g) :=
  ⟨hg.os.trans h.os, hg.tape.trans h.tape, hg.output.trans h.output, Nat.le_trans h.size hg.size, fun i hi hne => (hg.block i (Nat.lt_of_lt_of_le hi h.size) (fun e => by
    rcases hr i e.symm with hh | hh
    · exact hne (by rw [hh])
    · omega)).trans (h.block i hi hne)⟩

def Blk (w : World) (g : Nat) (t : TypeId) (cs : Array Value) : Prop := w.heap[g]? = some (.cells cs t (0, 0))

section
variable {w w' : World} {g : Nat} {t : TypeId} {cs : Array Value}
theorem Blk.lt (h : Blk w g t cs) : g < w.heap.size := by
  rcases Nat.lt_or_ge g w.heap.size with hlt | hge
  · exact hlt
  · unfold Blk at h; rw [Array.getElem?_eq_none hge] at h; cases h
theorem Blk.cell (h : Blk w g t cs) (i : Nat) : w.cell? ⟨g, i, none⟩ = cs[i]? := cell_of_row w g i cs t (0, 0) h
theorem Blk.frozen (h : Blk w g t cs) (i : Nat) : w.frozen? ⟨g, i, none⟩ = false := by
  unfold Blk at h
  simp [World.frozen?, h]
theorem Blk.new (w : World) (t : TypeId) (cs : Array Value) : Blk (w.alloc (.cells cs t)) w.heap.size t cs := heap_alloc_new w _
theorem Blk.drew (h : Blk w g t cs) : Blk w.drew g t cs := h
theorem Blk.drewN (h : Blk w g t cs) (n : Nat) : Blk (w.drewN n) g t cs := h
theorem Blk.alloc (h : Blk w g t cs) (o : Obj) : Blk (w.alloc o) g t cs := (Below.heap_alloc w o g h.lt).trans h
theorem Blk.set_ (h : Blk w g t cs) (i : Nat) (u : Value) : Blk (w.setCell ⟨g, i, none⟩ u) g t (cs.setIfInBounds i u) := by
  unfold Blk at h ⊢
  simp [World.setCell, Array.getElem?_modify, h]
theorem Blk.far (h : Blk w g t cs) {p : Addr} (hp : g ≠ p.block) (u : Value) : Blk (w.setCell p u) g t cs := (Below.heap_setCell w p u g hp).trans h
theorem Blk.below {B : Nat} (h : Blk w g t cs) (hb : Below B w w') (hg : g < B) : Blk w' g t cs := (hb.block g hg).trans h
theorem Blk.grown {row : Option Nat} (h : Blk w g t cs) (hb : w.grownBy w' row) (hg : some g ≠ row) : Blk w' g t cs := (hb.block g h.lt hg).trans h
theorem Blk.ne_ {g' : Nat} {t' : TypeId} {cs' : Array Value} (h : Blk w g t cs) (h' : Blk w g' t' cs') (hne : t ≠ t') : g ≠ g' := by
  rintro rfl
  unfold Blk at h h'
  rw [h] at h'
  injection h' with h'
  injection h' with _ ht
  exact hne ht
theorem own_blk_ne {base : Nat} {e : TypeId} {size n : Nat} {v : Value} {xs : List Value} (h : w.ownsRow base e size v n xs) (hg : Blk w g t cs) (hne : e ≠ t) : v.ownBlock ≠ some g := by
  rcases h.2 with ⟨rfl, _⟩ | ⟨g', cap, cur, rfl, _, hh, _⟩
  · simp [Value.ownBlock]
  · intro he
    have : g' = g := by simpa [Value.ownBlock] using he
    subst this
    exact Blk.ne_ (t := e) hh hg hne rfl
end


theorem own_form {w : World} {base : Nat} {e : TypeId} {size n : Nat} {v : Value} {xs : List Value} (h : w.ownsRow base e size v n xs) : ∃ A c, v = .slice A n c := by
  rcases h.2 with ⟨rfl, rfl⟩ | ⟨g, cap, cur, rfl, _⟩
  · exact ⟨_, _, rfl⟩
  · exact ⟨_, _, rfl⟩
theorem only_setRow (w : World) (g : Nat) (cs : Array Value) : w.grownBy (w.setRow g cs) (some g) :=
  ⟨rfl, rfl, rfl, by simp [World.setRow], fun k hk hne => by
    simp only [World.setRow, Array.getElem?_modify]
    rw [if_neg]
    intro e
    exact hne (by rw [e])⟩
theorem results_tmp_cell {P : Program} {fn : Func} {t p : Tmp} {ty : TypeId} (h : fn.results = #[.tmp t, .cell p ty]) (tmps : Array Value) (w : World) (g : Nat) (t' : TypeId) (cs : Array Value) (fr : Nat × Nat) (d : TypeDesc)
    (hp : tmps.getD p undef = .pointer (some ⟨g, 0, none⟩)) (hg : w.heap[g]? = some (.cells cs t' fr))
    (hu : P.underlying ty = some d) (hd : (match d with | .struct _ | .array _ _ => true | _ => false) = true) (hi : (P.info? ty).map (·.size) = some cs.size) :
    (results fn tmps).run P w = .ok (.tuple #[tmps.getD t undef, .agg cs]) w := by
  have hp' : tmps[p]?.getD undef = .pointer (some ⟨g, 0, none⟩) := by simpa using hp
  simp [results, h, hp', asAddr, run_loadVar_row w g t' ty cs fr d hg hu hd hi]
theorem none_row (o : Option Nat) : o = none ∨ o ≠ Value.ownBlock (.slice none 0 0) := by cases o <;> simp [Value.ownBlock]
theorem own_base {w : World} {base base' : Nat} {e : TypeId} {size n : Nat} {v : Value} {xs : List Value} (h : w.ownsRow base e size v n xs) (hb : base' ≤ base) : w.ownsRow base' e size v n xs := by
  refine ⟨h.1, ?_⟩
  rcases h.2 with hn | ⟨g, cap, cur, e1, h2, rest⟩
  · exact .inl hn
  · exact .inr ⟨g, cap, cur, e1, Nat.le_trans hb h2, rest⟩
theorem own_keep {W w : World} {base g : Nat} {e : TypeId} {size n : Nat} {v : Value} {xs : List Value} (h : W.ownsRow base e size v n xs) (hg : W.grownBy w (some g)) (hb : g < base) : w.ownsRow base e size v n xs := by
  refine h.kept hg ?_
  cases hv : v.ownBlock with
  | none => exact .inl rfl
  | some k =>
    refine .inr ?_
    intro e'
    injection e' with e'
    have := (h.lt k hv).1
    omega
theorem Blk.keepAlloc {w : World} {g : Nat} {t : TypeId} {cs : Array Value} (h : Blk w g t cs) (o : Obj) : Blk (w.alloc o) g t cs := h.alloc o
theorem Blk.moved {w : World} {g g' : Nat} {t : TypeId} {cs : Array Value} (h : Blk w g t cs) (e : g = g') : Blk w g' t cs := e ▸ h
theorem Blk.only {W w : World} {g g' : Nat} {t : TypeId} {cs : Array Value} (h : Blk W g' t cs) (hg : W.grownBy w (some g)) (hne : g' ≠ g) : Blk w g' t cs := h.grown hg (fun e => hne (by injection e))
theorem own_blk_lt {w : World} {base : Nat} {e : TypeId} {size n : Nat} {v : Value} {xs : List Value} {g : Nat} (h : w.ownsRow base e size v n xs) (hb : g < base) : some g ≠ v.ownBlock := by
  intro e'
  have := (h.lt g e'.symm).1
  omega
theorem RdL.only {α : Type} {enc : α → List Value} {size : Nat} {w w' : World} {B g : Nat} {A : Option Addr} {l : List α} (h : RdL enc size w B A l) (hg : w.grownBy w' (some g)) (hB : B ≤ g) (hB' : B ≤ w.heap.size) : RdL enc size w' B A l :=
  h.keep fun p hp => World.cell?_of_block (hg.block p.block (by omega) (fun e => by injection e with e; omega))
end Go.Proofs.YtgdnpmpnkbnjaaaGreatDoor
namespace Go.Proofs.YtgdnpmpnkbnjaaaGreatDoor
open Go.RowKit

structure Ins where
  op : Int
  a : Int
  b : Int
  c : Int
  n : Int
deriving DecidableEq
structure Pla where
  line : Int
  col : Int
deriving DecidableEq
/-- api.Var (a name and the first value), api.Barrier (a name and how many parties) -/
structure Nam where
  name : ByteArray
  num : Int
/-- api.Thread, with the addresses and capacities of its lists -/
structure Thr where
  name : ByteArray
  Ac : Option Addr
  cc : Nat
  code : List Ins
  Ap : Option Addr
  cp : Nat
  places : List Pla
structure Prg where
  Av : Option Addr
  cv : Nat
  vars : List Nam
  Ao : Option Addr
  co : Nat
  vols : List Nam
  Al : Option Addr
  cl : Nat
  locks : List ByteArray
  Ab : Option Addr
  cb : Nat
  bars : List Nam
  At : Option Addr
  ct : Nat
  threads : List Thr

def encI (x : Ins) : List Value := [.int .i64 x.op, .int .i64 x.a, .int .i64 x.b, .int .i64 x.c, .int .i64 x.n]
def encP (x : Pla) : List Value := [.int .i64 x.line, .int .i64 x.col]
def encN (x : Nam) : List Value := [.string x.name, .int .i64 x.num]
def encS (x : ByteArray) : List Value := [.string x]
def encZ (x : Int) : List Value := [.int .i64 x]
def Thr.cells (t : Thr) : List Value := [.string t.name, .slice t.Ac t.code.length t.cc, .slice t.Ap t.places.length t.cp]
def Ins.val (x : Ins) : Value := .agg #[.int .i64 x.op, .int .i64 x.a, .int .i64 x.b, .int .i64 x.c, .int .i64 x.n]
def Pla.val (x : Pla) : Value := .agg #[.int .i64 x.line, .int .i64 x.col]
def Thr.val (t : Thr) : Value := .agg #[.string t.name, .slice t.Ac t.code.length t.cc, .slice t.Ap t.places.length t.cp]
def Prg.val (p : Prg) : Value := .agg #[.slice p.Av p.vars.length p.cv, .slice p.Ao p.vols.length p.co, .slice p.Al p.locks.length p.cl, .slice p.Ab p.bars.length p.cb, .slice p.At p.threads.length p.ct]

/-- how large what is read may be: no name, no list takes more than 2^47 bytes; the capacities bear the lengths -/
structure Thr.Fits (t : Thr) : Prop where
  name : t.name.size ≤ 140737488355328
  code : t.code.length * 40 ≤ 140737488355328
  places : t.places.length * 16 ≤ 140737488355328
  cc : t.code.length ≤ t.cc
  cp : t.places.length ≤ t.cp
structure Prg.Fits (p : Prg) : Prop where
  vars : p.vars.length * 24 ≤ 140737488351232
  vols : p.vols.length * 24 ≤ 140737488351232
  locks : p.locks.length * 16 ≤ 140737488351232
  bars : p.bars.length * 24 ≤ 140737488351232
  threads : p.threads.length * 64 ≤ 140737488351232
  cv : p.vars.length ≤ p.cv
  co : p.vols.length ≤ p.co
  cl : p.locks.length ≤ p.cl
  cb : p.bars.length ≤ p.cb
  ct : p.threads.length ≤ p.ct
  nvars : ∀ x ∈ p.vars, x.name.size ≤ 140737488355328
  nvols : ∀ x ∈ p.vols, x.name.size ≤ 140737488355328
  nlocks : ∀ x ∈ p.locks, x.size ≤ 140737488355328
  nbars : ∀ x ∈ p.bars, x.name.size ≤ 140737488355328
  fthreads : ∀ t ∈ p.threads, t.Fits
/-- a thread's lists lie in memory, below block B -/
structure Thr.In (w : World) (B : Nat) (t : Thr) : Prop where
  code : RdL encI 5 w B t.Ac t.code
  places : RdL encP 2 w B t.Ap t.places
structure Prg.In (w : World) (B : Nat) (p : Prg) : Prop where
  vars : RdL encN 2 w B p.Av p.vars
  vols : RdL encN 2 w B p.Ao p.vols
  locks : RdL encS 1 w B p.Al p.locks
  bars : RdL encN 2 w B p.Ab p.bars
  threads : RdL Thr.cells 3 w B p.At p.threads
  thr : ∀ t ∈ p.threads, t.In w B
section
variable {w w' : World} {B B' : Nat}
theorem Thr.In.below {t : Thr} (h : t.In w B) (hb : Below B w w') : t.In w' B := ⟨h.code.below hb, h.places.below hb⟩
theorem Thr.In.more {t : Thr} (h : t.In w B) (hB : B ≤ B') : t.In w B' := ⟨h.code.more hB, h.places.more hB⟩
theorem Prg.In.below {p : Prg} (h : p.In w B) (hb : Below B w w') : p.In w' B :=
  ⟨h.vars.below hb, h.vols.below hb, h.locks.below hb, h.bars.below hb, h.threads.below hb, fun t ht => (h.thr t ht).below hb⟩
theorem Prg.In.more {p : Prg} (h : p.In w B) (hB : B ≤ B') : p.In w B' :=
  ⟨h.vars.more hB, h.vols.more hB, h.locks.more hB, h.bars.more hB, h.threads.more hB, fun t ht => (h.thr t ht).more hB⟩

theorem RdL.ins {A : Option Addr} {l : List Ins} (h : RdL encI 5 w B A l) {k : Nat} {x : Ins} (hk : l[k]? = some x) :
    ∃ g off, A = some ⟨g, off, none⟩ ∧ g < B ∧ w.cell? ⟨g, off + k * 5, none⟩ = some (.int .i64 x.op) ∧ w.cell? ⟨g, off + k * 5 + 1, none⟩ = some (.int .i64 x.a) ∧
      w.cell? ⟨g, off + k * 5 + 2, none⟩ = some (.int .i64 x.b) ∧ w.cell? ⟨g, off + k * 5 + 3, none⟩ = some (.int .i64 x.c) ∧ w.cell? ⟨g, off + k * 5 + 4, none⟩ = some (.int .i64 x.n) := by
  obtain ⟨g, off, e, hg, hc⟩ := h.at_ hk
  exact ⟨g, off, e, hg, hc 0 _ rfl, hc 1 _ rfl, hc 2 _ rfl, hc 3 _ rfl, hc 4 _ rfl⟩
theorem RdL.pla {A : Option Addr} {l : List Pla} (h : RdL encP 2 w B A l) {k : Nat} {x : Pla} (hk : l[k]? = some x) :
    ∃ g off, A = some ⟨g, off, none⟩ ∧ g < B ∧ w.cell? ⟨g, off + k * 2, none⟩ = some (.int .i64 x.line) ∧ w.cell? ⟨g, off + k * 2 + 1, none⟩ = some (.int .i64 x.col) := by
  obtain ⟨g, off, e, hg, hc⟩ := h.at_ hk
  exact ⟨g, off, e, hg, hc 0 _ rfl, hc 1 _ rfl⟩
theorem RdL.nam {A : Option Addr} {l : List Nam} (h : RdL encN 2 w B A l) {k : Nat} {x : Nam} (hk : l[k]? = some x) :
    ∃ g off, A = some ⟨g, off, none⟩ ∧ g < B ∧ w.cell? ⟨g, off + k * 2, none⟩ = some (.string x.name) ∧ w.cell? ⟨g, off + k * 2 + 1, none⟩ = some (.int .i64 x.num) := by
  obtain ⟨g, off, e, hg, hc⟩ := h.at_ hk
  exact ⟨g, off, e, hg, hc 0 _ rfl, hc 1 _ rfl⟩
theorem RdL.str {A : Option Addr} {l : List ByteArray} (h : RdL encS 1 w B A l) {k : Nat} {x : ByteArray} (hk : l[k]? = some x) :
    ∃ g off, A = some ⟨g, off, none⟩ ∧ g < B ∧ w.cell? ⟨g, off + k, none⟩ = some (.string x) := by
  obtain ⟨g, off, e, hg, hc⟩ := h.at_ hk
  exact ⟨g, off, e, hg, by simpa using hc 0 _ rfl⟩
theorem RdL.num {A : Option Addr} {l : List Int} (h : RdL encZ 1 w B A l) {k : Nat} {x : Int} (hk : l[k]? = some x) :
    ∃ g off, A = some ⟨g, off, none⟩ ∧ g < B ∧ w.cell? ⟨g, off + k, none⟩ = some (.int .i64 x) := by
  obtain ⟨g, off, e, hg, hc⟩ := h.at_ hk
  exact ⟨g, off, e, hg, by simpa using hc 0 _ rfl⟩
theorem RdL.thr {A : Option Addr} {l : List Thr} (h : RdL Thr.cells 3 w B A l) {k : Nat} {x : Thr} (hk : l[k]? = some x) :
    ∃ g off, A = some ⟨g, off, none⟩ ∧ g < B ∧ w.cell? ⟨g, off + k * 3, none⟩ = some (.string x.name) ∧ w.cell? ⟨g, off + k * 3 + 1, none⟩ = some (.slice x.Ac x.code.length x.cc) ∧
      w.cell? ⟨g, off + k * 3 + 2, none⟩ = some (.slice x.Ap x.places.length x.cp) := by
  obtain ⟨g, off, e, hg, hc⟩ := h.at_ hk
  exact ⟨g, off, e, hg, hc 0 _ rfl, hc 1 _ rfl, hc 2 _ rfl⟩
end
theorem get_mem {α : Type} {l : List α} {k : Nat} {x : α} (h : l[k]? = some x) : x ∈ l := List.mem_of_getElem? h

/-- the names of the five lists, by their numbers (0: none) -/
def Prg.names (p : Prg) : Nat → List ByteArray
  | 1 => p.vars.map (·.name)
  | 2 => p.vols.map (·.name)
  | 3 => p.locks
  | 4 => p.bars.map (·.name)
  | 5 => p.threads.map (·.name)
  | _ => []
end Go.Proofs.YtgdnpmpnkbnjaaaGreatDoor
namespace Go.Proofs.YtgdnpmpnkbnjaaaGreatDoor
open Go.RowKit

theorem info_str : (Tryz.prog.info? 9).map (fun i => (i.zero, i.size, i.bytes)) = some (some (.string ByteArray.empty), 1, 16) := by kernel_rfl
theorem size_six : (Tryz.prog.info? 100).map (·.size) = some 6 := by kernel_rfl
abbrev ns : Value := .slice none 0 0
theorem flatS (l : List ByteArray) : l.flatMap encS = l.map Value.string := by
  induction l with
  | nil => rfl
  | cons a r ih => simp only [List.flatMap_cons, List.map_cons, ih]; rfl
theorem oneS {l : List ByteArray} : ∀ u ∈ l.flatMap encS, u.oneCell' = true := by
  intro u hu
  rw [flatS] at hu
  obtain ⟨x, _, rfl⟩ := List.mem_map.1 hu
  rfl
theorem take_map_succ {α : Type} (f : α → ByteArray) {l : List α} {k : Nat} {x : α} (h : l[k]? = some x) : (l.take (k + 1)).map (fun y => Value.string (f y)) = (l.take k).map (fun y => Value.string (f y)) ++ [Value.string (f x)] := by
  rw [List.take_add_one, h]; simp
theorem take_all_map {α : Type} (f : α → ByteArray) (l : List α) : (l.take l.length).map (fun y => Value.string (f y)) = (l.map f).flatMap encS := by
  rw [flatS, List.take_of_length_le (Nat.le_refl _), List.map_map]; rfl

set_option maxHeartbeats 4000000 in
set_option maxRecDepth 100000 in
theorem parts_any (p : Prg) (w : World) (hf : p.Fits) (hin : p.In w w.heap.size) :
    Calls Tryz.prog 45 #[p.val] w fun e w' => ∃ v1 v2 v3 v4 v5, e = .returned (.agg #[ns, v1, v2, v3, v4, v5]) ∧ Below w.heap.size w w' ∧
      w'.ownsRow w.heap.size 9 1 v1 p.vars.length ((p.names 1).flatMap encS) ∧ w'.ownsRow w.heap.size 9 1 v2 p.vols.length ((p.names 2).flatMap encS) ∧ w'.ownsRow w.heap.size 9 1 v3 p.locks.length ((p.names 3).flatMap encS) ∧
      w'.ownsRow w.heap.size 9 1 v4 p.bars.length ((p.names 4).flatMap encS) ∧ w'.ownsRow w.heap.size 9 1 v5 p.threads.length ((p.names 5).flatMap encS) := by
  obtain ⟨i0, hi0, hz0, hz1, hz2⟩ := info_parts info_str
  have HF := Lib.hid hf; clear hf
  have HI := Lib.hid hin; clear hin
  unfold Prg.val
  go_enter Tryz.func45, Tryz.ntmps45
  go_wp2_with fail
  generalize hW : World.alloc _ _ = W0
  have HBEL0 : Below w.heap.size w W0 := by subst hW; go_grown
  have hs0 : w.heap.size + 1 + 1 + 1 ≤ W0.heap.size := by subst hW; simp
  have HBLK0 : Hid (Blk W0 (w.heap.size + 1 + 1) 100 #[ns, ns, ns, ns, ns, ns]) := by
    subst hW
    have := Blk.new ((w.alloc (.cells #[.slice p.Av p.vars.length p.cv, .slice p.Ao p.vols.length p.co, .slice p.Al p.locks.length p.cl, .slice p.Ab p.bars.length p.cb, .slice p.At p.threads.length p.ct] 27)).alloc (.cells #[ns, ns, ns, ns, ns, ns] 100)) 100 #[ns, ns, ns, ns, ns, ns]
    exact this.moved (by simp)
  have HRES0 : Hid (Blk W0 (w.heap.size + 1) 100 #[ns, ns, ns, ns, ns, ns]) := by
    subst hW
    have := (Blk.new (w.alloc (.cells #[.slice p.Av p.vars.length p.cv, .slice p.Ao p.vols.length p.co, .slice p.Al p.locks.length p.cl, .slice p.Ab p.bars.length p.cb, .slice p.At p.threads.length p.ct] 27)) 100 #[ns, ns, ns, ns, ns, ns]).alloc (.cells #[ns, ns, ns, ns, ns, ns] 100)
    exact this.moved (by simp)
  have HBOX0 : Hid (Blk W0 w.heap.size 27 #[.slice p.Av p.vars.length p.cv, .slice p.Ao p.vols.length p.co, .slice p.Al p.locks.length p.cl, .slice p.Ab p.bars.length p.cb, .slice p.At p.threads.length p.ct]) := by
    subst hW
    exact ((Blk.new w _ _).alloc _).alloc _
  clear hW
  go_loopw [15] (fun i wr => ∃ (k : Nat) (A : Option Addr) (c : Nat), k ≤ p.vars.length ∧ i = .int .i64 k ∧ Blk wr (w.heap.size + 1 + 1) 100 #[ns, .slice A k c, ns, ns, ns, ns] ∧ wr.ownsRow W0.heap.size 9 1 (.slice A k c) k ((p.vars.take k).map fun x => Value.string x.name) ∧ W0.grownBy wr (some (w.heap.size + 1 + 1))) (fun i _ => p.vars.length - (intOf i).toNat)
  case atStart => exact ⟨0, none, 0, by omega, rfl, HBLK0.out, ⟨rfl, .inl ⟨rfl, rfl⟩⟩, World.grownBy.refl _ _⟩
  case round =>
    obtain ⟨k, A1, c1, hk, rfl, hblk, hown, hg⟩ := hrel
    have HB := Lib.hid hblk; clear hblk
    by_cases hlt : k < p.vars.length
    · obtain ⟨x, hx⟩ := get_some hlt
      obtain ⟨g, off, hA, hgB, q0, q1⟩ := (((HI.out.vars).below HBEL0).only hg (by omega) (by omega)).nam hx
      have e1 : wr.cell? ⟨w.heap.size + 1 + 1, 1, none⟩ = some (.slice A1 k c1) := HB.out.cell 1
      have hs : w.heap.size + 1 + 1 < wr.heap.size := HB.out.lt
      have hWr : W0.heap.size ≤ wr.heap.size := hg.size
      have hvl : p.vars.length * 24 ≤ 140737488351232 := HF.out.vars
      have HX := Lib.hid hx
      rw [hA]
      clear hA hx
      go_wp2_with (at_builtin; go_must (refine wpList_append_one rfl (.tmp 20) (.tmp 23) _ rfl _ _ W0.heap.size 9 i0 _ 1 16 Tryz.underlying23 hi0 hz0 hz1 hz2 rfl (by omega) (.slice A1 k c1) k _ (by rfl) _ (by rfl) (by simp) (by rfl) (by simp [Value.oneCell']) (by exact hown.alloc _) (by simp only [maxLen]; omega) (by omega) (by simp; omega) ?_); intro g1 k1 w1 hown1 hg1 hat1 hbg1 hgl1; have hb1 := (HB.out.alloc _).grown hg1 (own_blk_lt hown (by omega)); have e2 := hb1.cell 1; have f2 := hb1.frozen 1; have HB1 := Lib.hid hb1; clear hb1)
      go_roundw
      case rel =>
        refine ⟨k + 1, _, _, by omega, by go_num, HB1.out.set_ 1 _, ?_, only_setCell (only_grown (only_alloc hg _) hg1 ?_) (.inl rfl) _⟩
        · rw [take_map_succ _ HX.out]
          exact ownsRow_setCell_other hown1 (by simp [Value.ownBlock]; omega) _
        · intro j hj
          exact .inr (hown.lt j hj).1
      case measure => simp [intOf]; omega
    · obtain rfl : k = p.vars.length := by omega
      clear hk hlt
      obtain ⟨W1, rfl⟩ : ∃ x : World, x = wr := ⟨_, rfl⟩
      obtain ⟨v1, hv1⟩ : ∃ v : Value, v = .slice A1 p.vars.length c1 := ⟨_, rfl⟩
      rw [← hv1] at hown HB
      have HOWN1_1 : Hid (W1.ownsRow (w.heap.size + 1 + 1 + 1) 9 1 v1 p.vars.length _) := own_base hown hs0
      have HV1 := Lib.hid hv1; clear hown hv1
      have HBLK1 := HB; clear HB
      have HBOX1 := Lib.hid (HBOX0.out.only hg (by omega)); clear HBOX0
      have HRES1 := Lib.hid (HRES0.out.only hg (by omega)); clear HRES0
      have HBEL1 : Below w.heap.size w W1 := HBEL0.grown hg (by omega) (by intro k hk; injection hk; omega)
      have hs1 : w.heap.size + 1 + 1 + 1 ≤ W1.heap.size := Nat.le_trans hs0 hg.size
      clear hg HBLK0 HBEL0
      have hb2 : W1.cell? ⟨w.heap.size, 1, none⟩ = some (.slice p.Ao p.vols.length p.co) := HBOX1.out.cell 1
      go_wp2_with fail
      clear hb2
      go_loopw [30] (fun i wr => ∃ (k : Nat) (A : Option Addr) (c : Nat), k ≤ p.vols.length ∧ i = .int .i64 k ∧ Blk wr (w.heap.size + 1 + 1) 100 #[ns, v1, .slice A k c, ns, ns, ns] ∧ wr.ownsRow W1.heap.size 9 1 (.slice A k c) k ((p.vols.take k).map fun x => Value.string x.name) ∧ W1.grownBy wr (some (w.heap.size + 1 + 1))) (fun i _ => p.vols.length - (intOf i).toNat)
      case atStart => exact ⟨0, none, 0, by omega, rfl, HBLK1.out, ⟨rfl, .inl ⟨rfl, rfl⟩⟩, World.grownBy.refl _ _⟩
      case round =>
        obtain ⟨k, A2, c2, hk, rfl, hblk, hown, hg⟩ := hrel
        have HB := Lib.hid hblk; clear hblk
        by_cases hlt : k < p.vols.length
        · obtain ⟨x, hx⟩ := get_some hlt
          obtain ⟨g, off, hA, hgB, q0, q1⟩ := (((HI.out.vols).below HBEL1).only hg (by omega) (by omega)).nam hx
          have e1 : wr.cell? ⟨w.heap.size + 1 + 1, 2, none⟩ = some (.slice A2 k c2) := HB.out.cell 2
          have hs : w.heap.size + 1 + 1 < wr.heap.size := HB.out.lt
          have hWr : W1.heap.size ≤ wr.heap.size := hg.size
          have hvl : p.vols.length * 24 ≤ 140737488351232 := HF.out.vols
          have HX := Lib.hid hx
          rw [hA]
          clear hA hx
          go_wp2_with (at_builtin; go_must (refine wpList_append_one rfl (.tmp 35) (.tmp 38) _ rfl _ _ W1.heap.size 9 i0 _ 1 16 Tryz.underlying23 hi0 hz0 hz1 hz2 rfl (by omega) (.slice A2 k c2) k _ (by rfl) _ (by rfl) (by simp) (by rfl) (by simp [Value.oneCell']) (by exact hown.alloc _) (by simp only [maxLen]; omega) (by omega) (by simp; omega) ?_); intro g1 k1 w1 hown1 hg1 hat1 hbg1 hgl1; have hb1 := (HB.out.alloc _).grown hg1 (own_blk_lt hown (by omega)); have e2 := hb1.cell 2; have f2 := hb1.frozen 2; have HB1 := Lib.hid hb1; clear hb1)
          go_roundw
          case rel =>
            refine ⟨k + 1, _, _, by omega, by go_num, HB1.out.set_ 2 _, ?_, only_setCell (only_grown (only_alloc hg _) hg1 ?_) (.inl rfl) _⟩
            · rw [take_map_succ _ HX.out]
              exact ownsRow_setCell_other hown1 (by simp [Value.ownBlock]; omega) _
            · intro j hj
              exact .inr (hown.lt j hj).1
          case measure => simp [intOf]; omega
        · obtain rfl : k = p.vols.length := by omega
          clear hk hlt
          obtain ⟨W2, rfl⟩ : ∃ x : World, x = wr := ⟨_, rfl⟩
          obtain ⟨v2, hv2⟩ : ∃ v : Value, v = .slice A2 p.vols.length c2 := ⟨_, rfl⟩
          rw [← hv2] at hown HB
          have HOWN2_2 : Hid (W2.ownsRow (w.heap.size + 1 + 1 + 1) 9 1 v2 p.vols.length _) := own_base hown hs1
          have HV2 := Lib.hid hv2; clear hown hv2
          have HBLK2 := HB; clear HB
          have HBOX2 := Lib.hid (HBOX1.out.only hg (by omega)); clear HBOX1
          have HRES2 := Lib.hid (HRES1.out.only hg (by omega)); clear HRES1
          have HBEL2 : Below w.heap.size w W2 := HBEL1.grown hg (by omega) (by intro k hk; injection hk; omega)
          have hs2 : w.heap.size + 1 + 1 + 1 ≤ W2.heap.size := Nat.le_trans hs1 hg.size
          have HOWN1_2 := Lib.hid (own_keep HOWN1_1.out hg (by omega)); clear HOWN1_1
          clear hg HBLK1 HBEL1
          have hb3 : W2.cell? ⟨w.heap.size, 2, none⟩ = some (.slice p.Al p.locks.length p.cl) := HBOX2.out.cell 2
          have hb3x : W2.cell? ⟨w.heap.size + 1 + 1, 3, none⟩ = some ns := HBLK2.out.cell 3
          have hlk : p.locks.length * 16 ≤ 140737488351232 := HF.out.locks
          have HLR := Lib.hid (RdL.reads (enc := encS) (size := 1) (fun _ => rfl) (HI.out.locks.below HBEL2))
          go_wp2_with (at_builtin; go_must (refine wpList_append_any _ rfl (.tmp 43) (.tmp 45) _ rfl W2.heap.size 9 i0 _ 1 16 Tryz.underlying23 hi0 hz0 hz1 hz2 rfl (by omega) ns 0 [] (by rfl) (World.ownsRow_nil _ _ _ _) w.heap.size p.Al p.locks.length p.cl _ (by rfl) HLR.out oneS (by simp only [maxLen]; omega) (by omega) (Nat.le_refl _) ?_); intro v3 w1 hown hg1 hat1; obtain ⟨A3, c3, rfl⟩ := own_form hown; have hb1 := HBLK2.out.grown hg1 (by simp [Value.ownBlock]); have e2 := hb1.cell 3; have f2 := hb1.frozen 3; have HB1 := Lib.hid hb1; have hbx := HBOX2.out.grown hg1 (by simp [Value.ownBlock]); have e3 := hbx.cell 3; have HBX := Lib.hid hbx; clear hb1 hat1 hbx; rw [Nat.zero_add] at hown)
          clear hb3 hb3x e2 f2 e3 hlk HLR
          obtain ⟨v3, hv3⟩ : ∃ v : Value, v = .slice A3 p.locks.length c3 := ⟨_, rfl⟩
          generalize hW : World.setCell _ _ _ = W3
          have hgw : w1.heap.size = W3.heap.size := by rw [← hW]; simp
          have HBLK3 : Hid (Blk W3 (w.heap.size + 1 + 1) 100 #[ns, v1, v2, v3, ns, ns]) := by
            rw [← hW, hv3]
            exact HB1.out.set_ 3 _
          have HBOX3 : Hid (Blk W3 w.heap.size 27 #[.slice p.Av p.vars.length p.cv, .slice p.Ao p.vols.length p.co, .slice p.Al p.locks.length p.cl, .slice p.Ab p.bars.length p.cb, .slice p.At p.threads.length p.ct]) := by
            rw [← hW]
            exact HBX.out.far (by dsimp only; omega) _
          have HRES3 : Hid (Blk W3 (w.heap.size + 1) 100 #[ns, ns, ns, ns, ns, ns]) := by
            rw [← hW]
            exact (HRES2.out.grown hg1 (by simp [Value.ownBlock])).far (by dsimp only; omega) _
          have HBEL3 : Below w.heap.size w W3 := by
            rw [← hW]
            exact (HBEL2.grown hg1 (by omega) (by simp [Value.ownBlock])).setCell (by dsimp only; omega) _
          have hs3 : w.heap.size + 1 + 1 + 1 ≤ W3.heap.size := by have := hg1.size; omega
          have HOWN3_3 : Hid (W3.ownsRow (w.heap.size + 1 + 1 + 1) 9 1 v3 p.locks.length (p.locks.flatMap encS)) := by
            rw [← hW, hv3]
            exact own_base (base := W2.heap.size) (ownsRow_setCell_below hown (by dsimp only; omega) _) (by omega)
          have HOWN1_3 : Hid (W3.ownsRow (w.heap.size + 1 + 1 + 1) 9 1 v1 p.vars.length ((p.vars.take p.vars.length).map fun x => Value.string x.name)) := by
            rw [← hW]
            exact ownsRow_setCell_below (HOWN1_2.out.kept hg1 (none_row _)) (by dsimp only; omega) _
          clear HOWN1_2
          have HOWN2_3 : Hid (W3.ownsRow (w.heap.size + 1 + 1 + 1) 9 1 v2 p.vols.length ((p.vols.take p.vols.length).map fun x => Value.string x.name)) := by
            rw [← hW]
            exact ownsRow_setCell_below (HOWN2_2.out.kept hg1 (none_row _)) (by dsimp only; omega) _
          clear HOWN2_2
          have HV3 := Lib.hid hv3
          clear hW hgw hv3 hown hg1 HB1 HBX HBLK2 HBOX2 HRES2 HBEL2
          rw [← HV3.out]
          go_loopw [51] (fun i wr => ∃ (k : Nat) (A : Option Addr) (c : Nat), k ≤ p.bars.length ∧ i = .int .i64 k ∧ Blk wr (w.heap.size + 1 + 1) 100 #[ns, v1, v2, v3, .slice A k c, ns] ∧ wr.ownsRow W3.heap.size 9 1 (.slice A k c) k ((p.bars.take k).map fun x => Value.string x.name) ∧ W3.grownBy wr (some (w.heap.size + 1 + 1))) (fun i _ => p.bars.length - (intOf i).toNat)
          case atStart => exact ⟨0, none, 0, by omega, rfl, HBLK3.out, ⟨rfl, .inl ⟨rfl, rfl⟩⟩, World.grownBy.refl _ _⟩
          case round =>
            obtain ⟨k, A4, c4, hk, rfl, hblk, hown, hg⟩ := hrel
            have HB := Lib.hid hblk; clear hblk
            by_cases hlt : k < p.bars.length
            · obtain ⟨x, hx⟩ := get_some hlt
              obtain ⟨g, off, hA, hgB, q0, q1⟩ := (((HI.out.bars).below HBEL3).only hg (by omega) (by omega)).nam hx
              have e1 : wr.cell? ⟨w.heap.size + 1 + 1, 4, none⟩ = some (.slice A4 k c4) := HB.out.cell 4
              have hs : w.heap.size + 1 + 1 < wr.heap.size := HB.out.lt
              have hWr : W3.heap.size ≤ wr.heap.size := hg.size
              have hvl : p.bars.length * 24 ≤ 140737488351232 := HF.out.bars
              have HX := Lib.hid hx
              rw [hA]
              clear hA hx
              go_wp2_with (at_builtin; go_must (refine wpList_append_one rfl (.tmp 56) (.tmp 59) _ rfl _ _ W3.heap.size 9 i0 _ 1 16 Tryz.underlying23 hi0 hz0 hz1 hz2 rfl (by omega) (.slice A4 k c4) k _ (by rfl) _ (by rfl) (by simp) (by rfl) (by simp [Value.oneCell']) (by exact hown.alloc _) (by simp only [maxLen]; omega) (by omega) (by simp; omega) ?_); intro g1 k1 w1 hown1 hg1 hat1 hbg1 hgl1; have hb1 := (HB.out.alloc _).grown hg1 (own_blk_lt hown (by omega)); have e2 := hb1.cell 4; have f2 := hb1.frozen 4; have HB1 := Lib.hid hb1; clear hb1)
              go_roundw
              case rel =>
                refine ⟨k + 1, _, _, by omega, by go_num, HB1.out.set_ 4 _, ?_, only_setCell (only_grown (only_alloc hg _) hg1 ?_) (.inl rfl) _⟩
                · rw [take_map_succ _ HX.out]
                  exact ownsRow_setCell_other hown1 (by simp [Value.ownBlock]; omega) _
                · intro j hj
                  exact .inr (hown.lt j hj).1
              case measure => simp [intOf]; omega
            · obtain rfl : k = p.bars.length := by omega
              clear hk hlt
              obtain ⟨W4, rfl⟩ : ∃ x : World, x = wr := ⟨_, rfl⟩
              obtain ⟨v4, hv4⟩ : ∃ v : Value, v = .slice A4 p.bars.length c4 := ⟨_, rfl⟩
              rw [← hv4] at hown HB
              have HOWN4_4 : Hid (W4.ownsRow (w.heap.size + 1 + 1 + 1) 9 1 v4 p.bars.length _) := own_base hown hs3
              have HV4 := Lib.hid hv4; clear hown hv4
              have HBLK4 := HB; clear HB
              have HBOX4 := Lib.hid (HBOX3.out.only hg (by omega)); clear HBOX3
              have HRES4 := Lib.hid (HRES3.out.only hg (by omega)); clear HRES3
              have HBEL4 : Below w.heap.size w W4 := HBEL3.grown hg (by omega) (by intro k hk; injection hk; omega)
              have hs4 : w.heap.size + 1 + 1 + 1 ≤ W4.heap.size := Nat.le_trans hs3 hg.size
              have HOWN1_4 := Lib.hid (own_keep HOWN1_3.out hg (by omega)); clear HOWN1_3
              have HOWN2_4 := Lib.hid (own_keep HOWN2_3.out hg (by omega)); clear HOWN2_3
              have HOWN3_4 := Lib.hid (own_keep HOWN3_3.out hg (by omega)); clear HOWN3_3
              clear hg HBLK3 HBEL3
              have hb5 : W4.cell? ⟨w.heap.size, 4, none⟩ = some (.slice p.At p.threads.length p.ct) := HBOX4.out.cell 4
              go_wp2_with fail
              clear hb5
              go_loopw [66] (fun i wr => ∃ (k : Nat) (A : Option Addr) (c : Nat), k ≤ p.threads.length ∧ i = .int .i64 k ∧ Blk wr (w.heap.size + 1 + 1) 100 #[ns, v1, v2, v3, v4, .slice A k c] ∧ wr.ownsRow W4.heap.size 9 1 (.slice A k c) k ((p.threads.take k).map fun x => Value.string x.name) ∧ W4.grownBy wr (some (w.heap.size + 1 + 1))) (fun i _ => p.threads.length - (intOf i).toNat)
              case atStart => exact ⟨0, none, 0, by omega, rfl, HBLK4.out, ⟨rfl, .inl ⟨rfl, rfl⟩⟩, World.grownBy.refl _ _⟩
              case round =>
                obtain ⟨k, A5, c5, hk, rfl, hblk, hown, hg⟩ := hrel
                have HB := Lib.hid hblk; clear hblk
                by_cases hlt : k < p.threads.length
                · obtain ⟨x, hx⟩ := get_some hlt
                  obtain ⟨g, off, hA, hgB, q0, q1, q2⟩ := (((HI.out.threads).below HBEL4).only hg (by omega) (by omega)).thr hx
                  have e1 : wr.cell? ⟨w.heap.size + 1 + 1, 5, none⟩ = some (.slice A5 k c5) := HB.out.cell 5
                  have hs : w.heap.size + 1 + 1 < wr.heap.size := HB.out.lt
                  have hWr : W4.heap.size ≤ wr.heap.size := hg.size
                  have hvl : p.threads.length * 64 ≤ 140737488351232 := HF.out.threads
                  have HX := Lib.hid hx
                  rw [hA]
                  clear hA hx
                  go_wp2_with (at_builtin; go_must (refine wpList_append_one rfl (.tmp 71) (.tmp 74) _ rfl _ _ W4.heap.size 9 i0 _ 1 16 Tryz.underlying23 hi0 hz0 hz1 hz2 rfl (by omega) (.slice A5 k c5) k _ (by rfl) _ (by rfl) (by simp) (by rfl) (by simp [Value.oneCell']) (by exact hown.alloc _) (by simp only [maxLen]; omega) (by omega) (by simp; omega) ?_); intro g1 k1 w1 hown1 hg1 hat1 hbg1 hgl1; have hb1 := (HB.out.alloc _).grown hg1 (own_blk_lt hown (by omega)); have e2 := hb1.cell 5; have f2 := hb1.frozen 5; have HB1 := Lib.hid hb1; clear hb1)
                  go_roundw
                  case rel =>
                    refine ⟨k + 1, _, _, by omega, by go_num, HB1.out.set_ 5 _, ?_, only_setCell (only_grown (only_alloc hg _) hg1 ?_) (.inl rfl) _⟩
                    · rw [take_map_succ _ HX.out]
                      exact ownsRow_setCell_other hown1 (by simp [Value.ownBlock]; omega) _
                    · intro j hj
                      exact .inr (hown.lt j hj).1
                  case measure => simp [intOf]; omega
                · obtain rfl : k = p.threads.length := by omega
                  clear hk hlt
                  obtain ⟨W5, rfl⟩ : ∃ x : World, x = wr := ⟨_, rfl⟩
                  obtain ⟨v5, hv5⟩ : ∃ v : Value, v = .slice A5 p.threads.length c5 := ⟨_, rfl⟩
                  rw [← hv5] at hown HB
                  have HOWN5_5 : Hid (W5.ownsRow (w.heap.size + 1 + 1 + 1) 9 1 v5 p.threads.length _) := own_base hown hs4
                  have HV5 := Lib.hid hv5; clear hown hv5
                  have HBLK5 := HB; clear HB
                  have HBOX5 := Lib.hid (HBOX4.out.only hg (by omega)); clear HBOX4
                  have HRES5 := Lib.hid (HRES4.out.only hg (by omega)); clear HRES4
                  have HBEL5 : Below w.heap.size w W5 := HBEL4.grown hg (by omega) (by intro k hk; injection hk; omega)
                  have hs5 : w.heap.size + 1 + 1 + 1 ≤ W5.heap.size := Nat.le_trans hs4 hg.size
                  have HOWN1_5 := Lib.hid (own_keep HOWN1_4.out hg (by omega)); clear HOWN1_4
                  have HOWN2_5 := Lib.hid (own_keep HOWN2_4.out hg (by omega)); clear HOWN2_4
                  have HOWN3_5 := Lib.hid (own_keep HOWN3_4.out hg (by omega)); clear HOWN3_4
                  have HOWN4_5 := Lib.hid (own_keep HOWN4_4.out hg (by omega)); clear HOWN4_4
                  clear hg HBLK4 HBEL4
                  obtain rfl := HV1.out
                  obtain rfl := HV2.out
                  obtain rfl := HV3.out
                  obtain rfl := HV4.out
                  obtain rfl := HV5.out
                  have hr5 : (W5.setRow (w.heap.size + 1) #[ns, .slice A1 p.vars.length c1, .slice A2 p.vols.length c2, .slice A3 p.locks.length c3, .slice A4 p.bars.length c4, .slice A5 p.threads.length c5]).heap[w.heap.size + 1]? = some (.cells #[ns, .slice A1 p.vars.length c1, .slice A2 p.vols.length c2, .slice A3 p.locks.length c3, .slice A4 p.bars.length c4, .slice A5 p.threads.length c5] 100 (0, 0)) := setRow_heap W5 (w.heap.size + 1) _ _ _ _ HRES5.out
                  have HR5 := Lib.hid hr5; clear hr5
                  go_wp2_with (first | (refine wpList_load_row rfl 100 _ rfl (w.heap.size + 1 + 1) (by rfl) 100 _ (0, 0) _ HBLK5.out Tryz.underlying100 rfl size_six ?_) | (refine wpList_store_row rfl 100 _ _ rfl (w.heap.size + 1) #[ns, .slice A1 p.vars.length c1, .slice A2 p.vols.length c2, .slice A3 p.locks.length c3, .slice A4 p.bars.length c4, .slice A5 p.threads.length c5] (by rfl) (by rfl) 100 _ HRES5.out size_six rfl (by simp [Value.oneCell']) ?_))
                  have hgr := only_setRow W5 (w.heap.size + 1) #[ns, .slice A1 p.vars.length c1, .slice A2 p.vols.length c2, .slice A3 p.locks.length c3, .slice A4 p.bars.length c4, .slice A5 p.threads.length c5]
                  refine bodyPost_ret (v := .agg #[ns, .slice A1 p.vars.length c1, .slice A2 p.vols.length c2, .slice A3 p.locks.length c3, .slice A4 p.bars.length c4, .slice A5 p.threads.length c5]) ?_ rfl ?_
                  · exact results_cell_row rfl _ _ (w.heap.size + 1) 100 _ (0, 0) _ rfl HR5.out Tryz.underlying100 rfl size_six
                  refine ⟨_, _, _, _, _, rfl, HBEL5.grown hgr (by omega) (by intro k hk; injection hk; omega), ?_, ?_, ?_, ?_, ?_⟩
                  · have h := own_base (base' := w.heap.size) (own_keep HOWN1_5.out hgr (by omega)) (by omega)
                    rw [take_all_map (fun x : Nam => x.name)] at h
                    exact h
                  · have h := own_base (base' := w.heap.size) (own_keep HOWN2_5.out hgr (by omega)) (by omega)
                    rw [take_all_map (fun x : Nam => x.name)] at h
                    exact h
                  · exact own_base (own_keep HOWN3_5.out hgr (by omega)) (by omega)
                  · have h := own_base (base' := w.heap.size) (own_keep HOWN4_5.out hgr (by omega)) (by omega)
                    rw [take_all_map (fun x : Nam => x.name)] at h
                    exact h
                  · have h := own_base (base' := w.heap.size) (own_keep HOWN5_5.out hgr (by omega)) (by omega)
                    rw [take_all_map (fun x : Thr => x.name)] at h
                    exact h

end Go.Proofs.YtgdnpmpnkbnjaaaGreatDoor
namespace Go.Proofs.YtgdnpmpnkbnjaaaGreatDoor
open Go.RowKit

theorem below_drewN {B : Nat} {a w : World} (h : Below B a w) (n : Nat) : Below B a (w.drewN n) := ⟨h.os, h.tape, h.output, h.size, h.block⟩
def cntPart (n1 n2 n3 n4 n5 : Nat) : Nat :=
  if 4096 < n1 then 1 else if 4096 < n2 then 2 else if 4096 < n3 then 3 else if 4096 < n4 then 4 else if 65535 < n5 ∨ n5 = 0 then 5 else 0
/-- the answer: an error and a place -/
def spotV (e part number at_ : Int) : Value := .tuple #[.int .i64 e, .agg #[.int .i64 part, .int .i64 number, .int .i64 at_]]

set_option maxHeartbeats 1000000 in
set_option maxRecDepth 100000 in
theorem counts_bad1 (A1 A2 A3 A4 A5 : Option Addr) (n1 n2 n3 n4 n5 c1 c2 c3 c4 c5 ga : Nat) (w : World)
    (hb : Blk w ga 100 #[ns, .slice A1 n1 c1, .slice A2 n2 c2, .slice A3 n3 c3, .slice A4 n4 c4, .slice A5 n5 c5])
    (h1 : 4096 < n1) :
    Calls Tryz.prog 46 #[.pointer (some ⟨ga, 0, none⟩)] w fun e w' => e = .returned (spotV 110 1 0 0) ∧ Below w.heap.size w w' := by
  have hga : ga < w.heap.size := hb.lt
  have b0 := hb.cell 0
  have b1 := hb.cell 1
  have b2 := hb.cell 2
  have b3 := hb.cell 3
  have b4 := hb.cell 4
  have b5 := hb.cell 5
  clear hb
  go_enter Tryz.func46, Tryz.ntmps46
  go_wp2_with fail
  refine wp_loop_rounds 7 ?_
  iterate 2 (rw [rounds_succ]; go_wp2_with fail; go_quiet (fail); go_wp2_with fail)
  go_returns
  exact ⟨rfl, by repeat' (first | (with_reducible exact Below.refl _ _) | (with_reducible assumption) | (with_reducible refine below_drewN ?_ _) | (with_reducible refine Below.drew ?_) | (with_reducible refine Below.alloc ?_ ?_ _) | (with_reducible refine Below.setCell ?_ ?_ _) | go_size)⟩

set_option maxHeartbeats 1000000 in
set_option maxRecDepth 100000 in
theorem counts_bad2 (A1 A2 A3 A4 A5 : Option Addr) (n1 n2 n3 n4 n5 c1 c2 c3 c4 c5 ga : Nat) (w : World)
    (hb : Blk w ga 100 #[ns, .slice A1 n1 c1, .slice A2 n2 c2, .slice A3 n3 c3, .slice A4 n4 c4, .slice A5 n5 c5])
    (h1 : n1 ≤ 4096) (h2 : 4096 < n2) :
    Calls Tryz.prog 46 #[.pointer (some ⟨ga, 0, none⟩)] w fun e w' => e = .returned (spotV 110 2 0 0) ∧ Below w.heap.size w w' := by
  have hga : ga < w.heap.size := hb.lt
  have b0 := hb.cell 0
  have b1 := hb.cell 1
  have b2 := hb.cell 2
  have b3 := hb.cell 3
  have b4 := hb.cell 4
  have b5 := hb.cell 5
  clear hb
  go_enter Tryz.func46, Tryz.ntmps46
  go_wp2_with fail
  refine wp_loop_rounds 7 ?_
  iterate 3 (rw [rounds_succ]; go_wp2_with fail; go_quiet (fail); go_wp2_with fail)
  go_returns
  exact ⟨rfl, by repeat' (first | (with_reducible exact Below.refl _ _) | (with_reducible assumption) | (with_reducible refine below_drewN ?_ _) | (with_reducible refine Below.drew ?_) | (with_reducible refine Below.alloc ?_ ?_ _) | (with_reducible refine Below.setCell ?_ ?_ _) | go_size)⟩

set_option maxHeartbeats 1000000 in
set_option maxRecDepth 100000 in
theorem counts_bad3 (A1 A2 A3 A4 A5 : Option Addr) (n1 n2 n3 n4 n5 c1 c2 c3 c4 c5 ga : Nat) (w : World)
    (hb : Blk w ga 100 #[ns, .slice A1 n1 c1, .slice A2 n2 c2, .slice A3 n3 c3, .slice A4 n4 c4, .slice A5 n5 c5])
    (h1 : n1 ≤ 4096) (h2 : n2 ≤ 4096) (h3 : 4096 < n3) :
    Calls Tryz.prog 46 #[.pointer (some ⟨ga, 0, none⟩)] w fun e w' => e = .returned (spotV 110 3 0 0) ∧ Below w.heap.size w w' := by
  have hga : ga < w.heap.size := hb.lt
  have b0 := hb.cell 0
  have b1 := hb.cell 1
  have b2 := hb.cell 2
  have b3 := hb.cell 3
  have b4 := hb.cell 4
  have b5 := hb.cell 5
  clear hb
  go_enter Tryz.func46, Tryz.ntmps46
  go_wp2_with fail
  refine wp_loop_rounds 7 ?_
  iterate 4 (rw [rounds_succ]; go_wp2_with fail; go_quiet (fail); go_wp2_with fail)
  go_returns
  exact ⟨rfl, by repeat' (first | (with_reducible exact Below.refl _ _) | (with_reducible assumption) | (with_reducible refine below_drewN ?_ _) | (with_reducible refine Below.drew ?_) | (with_reducible refine Below.alloc ?_ ?_ _) | (with_reducible refine Below.setCell ?_ ?_ _) | go_size)⟩

set_option maxHeartbeats 1000000 in
set_option maxRecDepth 100000 in
theorem counts_bad4 (A1 A2 A3 A4 A5 : Option Addr) (n1 n2 n3 n4 n5 c1 c2 c3 c4 c5 ga : Nat) (w : World)
    (hb : Blk w ga 100 #[ns, .slice A1 n1 c1, .slice A2 n2 c2, .slice A3 n3 c3, .slice A4 n4 c4, .slice A5 n5 c5])
    (h1 : n1 ≤ 4096) (h2 : n2 ≤ 4096) (h3 : n3 ≤ 4096) (h4 : 4096 < n4) :
    Calls Tryz.prog 46 #[.pointer (some ⟨ga, 0, none⟩)] w fun e w' => e = .returned (spotV 110 4 0 0) ∧ Below w.heap.size w w' := by
  have hga : ga < w.heap.size := hb.lt
  have b0 := hb.cell 0
  have b1 := hb.cell 1
  have b2 := hb.cell 2
  have b3 := hb.cell 3
  have b4 := hb.cell 4
  have b5 := hb.cell 5
  clear hb
  go_enter Tryz.func46, Tryz.ntmps46
  go_wp2_with fail
  refine wp_loop_rounds 7 ?_
  iterate 5 (rw [rounds_succ]; go_wp2_with fail; go_quiet (fail); go_wp2_with fail)
  go_returns
  exact ⟨rfl, by repeat' (first | (with_reducible exact Below.refl _ _) | (with_reducible assumption) | (with_reducible refine below_drewN ?_ _) | (with_reducible refine Below.drew ?_) | (with_reducible refine Below.alloc ?_ ?_ _) | (with_reducible refine Below.setCell ?_ ?_ _) | go_size)⟩

set_option maxHeartbeats 1000000 in
set_option maxRecDepth 100000 in
theorem counts_bad5 (A1 A2 A3 A4 A5 : Option Addr) (n1 n2 n3 n4 n5 c1 c2 c3 c4 c5 ga : Nat) (w : World)
    (hb : Blk w ga 100 #[ns, .slice A1 n1 c1, .slice A2 n2 c2, .slice A3 n3 c3, .slice A4 n4 c4, .slice A5 n5 c5])
    (h1 : n1 ≤ 4096) (h2 : n2 ≤ 4096) (h3 : n3 ≤ 4096) (h4 : n4 ≤ 4096) (h5 : 65535 < n5) :
    Calls Tryz.prog 46 #[.pointer (some ⟨ga, 0, none⟩)] w fun e w' => e = .returned (spotV 110 5 0 0) ∧ Below w.heap.size w w' := by
  have hga : ga < w.heap.size := hb.lt
  have b0 := hb.cell 0
  have b1 := hb.cell 1
  have b2 := hb.cell 2
  have b3 := hb.cell 3
  have b4 := hb.cell 4
  have b5 := hb.cell 5
  clear hb
  go_enter Tryz.func46, Tryz.ntmps46
  go_wp2_with fail
  refine wp_loop_rounds 7 ?_
  iterate 6 (rw [rounds_succ]; go_wp2_with fail; go_quiet (fail); go_wp2_with fail)
  go_returns
  exact ⟨rfl, by repeat' (first | (with_reducible exact Below.refl _ _) | (with_reducible assumption) | (with_reducible refine below_drewN ?_ _) | (with_reducible refine Below.drew ?_) | (with_reducible refine Below.alloc ?_ ?_ _) | (with_reducible refine Below.setCell ?_ ?_ _) | go_size)⟩

set_option maxHeartbeats 1000000 in
set_option maxRecDepth 100000 in
theorem counts_none (A1 A2 A3 A4 A5 : Option Addr) (n1 n2 n3 n4 n5 c1 c2 c3 c4 c5 ga : Nat) (w : World)
    (hb : Blk w ga 100 #[ns, .slice A1 n1 c1, .slice A2 n2 c2, .slice A3 n3 c3, .slice A4 n4 c4, .slice A5 n5 c5])
    (h1 : n1 ≤ 4096) (h2 : n2 ≤ 4096) (h3 : n3 ≤ 4096) (h4 : n4 ≤ 4096) (h5 : n5 = 0) :
    Calls Tryz.prog 46 #[.pointer (some ⟨ga, 0, none⟩)] w fun e w' => e = .returned (spotV 110 5 0 0) ∧ Below w.heap.size w w' := by
  have hga : ga < w.heap.size := hb.lt
  have b0 := hb.cell 0
  have b1 := hb.cell 1
  have b2 := hb.cell 2
  have b3 := hb.cell 3
  have b4 := hb.cell 4
  have b5 := hb.cell 5
  clear hb
  subst h5
  go_enter Tryz.func46, Tryz.ntmps46
  go_wp2_with fail
  refine wp_loop_rounds 7 ?_
  iterate 6 (rw [rounds_succ]; go_wp2_with fail; go_quiet (fail); go_wp2_with fail)
  go_returns
  exact ⟨rfl, by repeat' (first | (with_reducible exact Below.refl _ _) | (with_reducible assumption) | (with_reducible refine below_drewN ?_ _) | (with_reducible refine Below.drew ?_) | (with_reducible refine Below.alloc ?_ ?_ _) | (with_reducible refine Below.setCell ?_ ?_ _) | go_size)⟩

set_option maxHeartbeats 1000000 in
set_option maxRecDepth 100000 in
theorem counts_ok (A1 A2 A3 A4 A5 : Option Addr) (n1 n2 n3 n4 n5 c1 c2 c3 c4 c5 ga : Nat) (w : World)
    (hb : Blk w ga 100 #[ns, .slice A1 n1 c1, .slice A2 n2 c2, .slice A3 n3 c3, .slice A4 n4 c4, .slice A5 n5 c5])
    (h1 : n1 ≤ 4096) (h2 : n2 ≤ 4096) (h3 : n3 ≤ 4096) (h4 : n4 ≤ 4096) (h5 : 0 < n5) (h6 : n5 ≤ 65535) :
    Calls Tryz.prog 46 #[.pointer (some ⟨ga, 0, none⟩)] w fun e w' => e = .returned (spotV 0 0 0 0) ∧ Below w.heap.size w w' := by
  have hga : ga < w.heap.size := hb.lt
  have b0 := hb.cell 0
  have b1 := hb.cell 1
  have b2 := hb.cell 2
  have b3 := hb.cell 3
  have b4 := hb.cell 4
  have b5 := hb.cell 5
  clear hb
  have H5 : ((n5 : Int) == 0) = false := by simp; omega
  go_enter Tryz.func46, Tryz.ntmps46
  go_wp2_with fail
  refine wp_loop_rounds 7 ?_
  iterate 6 (rw [rounds_succ]; go_wp2_with fail; go_quiet (fail); go_wp2_with fail)
  rw [rounds_succ]
  go_wp2_with fail
  go_returns
  exact ⟨rfl, by repeat' (first | (with_reducible exact Below.refl _ _) | (with_reducible assumption) | (with_reducible refine below_drewN ?_ _) | (with_reducible refine Below.drew ?_) | (with_reducible refine Below.alloc ?_ ?_ _) | (with_reducible refine Below.setCell ?_ ?_ _) | go_size)⟩

theorem counts_any (A1 A2 A3 A4 A5 : Option Addr) (n1 n2 n3 n4 n5 c1 c2 c3 c4 c5 ga : Nat) (w : World)
    (hb : Blk w ga 100 #[ns, .slice A1 n1 c1, .slice A2 n2 c2, .slice A3 n3 c3, .slice A4 n4 c4, .slice A5 n5 c5]) :
    Calls Tryz.prog 46 #[.pointer (some ⟨ga, 0, none⟩)] w fun e w' => e = .returned (spotV (if cntPart n1 n2 n3 n4 n5 = 0 then 0 else 110) (cntPart n1 n2 n3 n4 n5) 0 0) ∧ Below w.heap.size w w' := by
  unfold cntPart
  by_cases h1 : 4096 < n1
  · simpa [h1] using counts_bad1 A1 A2 A3 A4 A5 n1 n2 n3 n4 n5 c1 c2 c3 c4 c5 ga w hb h1
  by_cases h2 : 4096 < n2
  · simpa [h1, h2] using counts_bad2 A1 A2 A3 A4 A5 n1 n2 n3 n4 n5 c1 c2 c3 c4 c5 ga w hb (by omega) h2
  by_cases h3 : 4096 < n3
  · simpa [h1, h2, h3] using counts_bad3 A1 A2 A3 A4 A5 n1 n2 n3 n4 n5 c1 c2 c3 c4 c5 ga w hb (by omega) (by omega) h3
  by_cases h4 : 4096 < n4
  · simpa [h1, h2, h3, h4] using counts_bad4 A1 A2 A3 A4 A5 n1 n2 n3 n4 n5 c1 c2 c3 c4 c5 ga w hb (by omega) (by omega) (by omega) h4
  by_cases h5 : 65535 < n5
  · simpa [h1, h2, h3, h4, h5] using counts_bad5 A1 A2 A3 A4 A5 n1 n2 n3 n4 n5 c1 c2 c3 c4 c5 ga w hb (by omega) (by omega) (by omega) (by omega) h5
  by_cases h6 : n5 = 0
  · simpa [h1, h2, h3, h4, h5, h6] using counts_none A1 A2 A3 A4 A5 n1 n2 n3 n4 n5 c1 c2 c3 c4 c5 ga w hb (by omega) (by omega) (by omega) (by omega) h6
  · simpa [h1, h2, h3, h4, h5, h6] using counts_ok A1 A2 A3 A4 A5 n1 n2 n3 n4 n5 c1 c2 c3 c4 c5 ga w hb (by omega) (by omega) (by omega) (by omega) (by omega) (by omega)
end Go.Proofs.YtgdnpmpnkbnjaaaGreatDoor
namespace Go.Proofs.YtgdnpmpnkbnjaaaGreatDoor
open Go.RowKit

/-- w' is w but for the blocks of which P holds, and new ones -/
structure Foot (P : Nat → Prop) (w w' : World) : Prop where
  os : w'.os = w.os
  tape : w'.tape = w.tape
  output : w'.output = w.output
  size : w.heap.size ≤ w'.heap.size
  block : ∀ i, i < w.heap.size → ¬ P i → w'.heap[i]? = w.heap[i]?
section
variable {P Q : Nat → Prop} {w w' w2 : World}
theorem Foot.refl (P : Nat → Prop) (w : World) : Foot P w w := ⟨rfl, rfl, rfl, Nat.le_refl _, fun _ _ _ => rfl⟩
theorem Foot.mono (h : Foot P w w') (hp : ∀ i, i < w.heap.size → P i → Q i) : Foot Q w w' := ⟨h.os, h.tape, h.output, h.size, fun i hi hq => h.block i hi fun hpi => hq (hp i hi hpi)⟩
theorem Foot.trans (h : Foot P w w') (k : Foot Q w' w2) (hq : ∀ i, i < w.heap.size → Q i → P i) : Foot P w w2 :=
  ⟨k.os.trans h.os, k.tape.trans h.tape, k.output.trans h.output, Nat.le_trans h.size k.size, fun i hi hp => (k.block i (Nat.lt_of_lt_of_le hi h.size) fun hqi => hp (hq i hi hqi)).trans (h.block i hi hp)⟩
theorem Foot.of_grown {row : Option Nat} (h : w.grownBy w' row) : Foot (fun i => row = some i) w w' := ⟨h.os, h.tape, h.output, h.size, fun i hi hp => h.block i hi fun e => hp e.symm⟩
theorem Foot.of_below {B : Nat} (h : Below B w w') : Foot (fun i => B ≤ i) w w' := ⟨h.os, h.tape, h.output, h.size, fun i _ hp => h.block i (by omega)⟩
theorem Foot.below {B : Nat} (h : Foot (fun i => B ≤ i) w w') (hB : B ≤ w.heap.size) : Below B w w' :=
  ⟨h.os, h.tape, h.output, h.size, fun i hi => h.block i (by omega) (by omega)⟩
theorem Foot.setCell (h : Foot P w w') {p : Addr} (hp : P p.block ∨ w.heap.size ≤ p.block) (u : Value) : Foot P w (w'.setCell p u) :=
  ⟨h.os, h.tape, h.output, by simpa [World.setCell] using h.size, fun i hi hn => (Below.heap_setCell w' p u i (by
    rintro rfl
    rcases hp with hp | hp
    · exact hn hp
    · omega)).trans (h.block i hi hn)⟩
theorem Foot.alloc (h : Foot P w w') (o : Obj) : Foot P w (w'.alloc o) := ⟨h.os, h.tape, h.output, Nat.le_trans h.size (by simp), fun i hi hn => (Below.heap_alloc w' o i (Nat.lt_of_lt_of_le hi h.size)).trans (h.block i hi hn)⟩
theorem Foot.drew (h : Foot P w w') : Foot P w w'.drew := ⟨h.os, h.tape, h.output, h.size, h.block⟩
theorem Foot.drewN (h : Foot P w w') (n : Nat) : Foot P w (w'.drewN n) := ⟨h.os, h.tape, h.output, h.size, h.block⟩
theorem Blk.foot {g : Nat} {t : TypeId} {cs : Array Value} (h : Blk w g t cs) (hf : Foot P w w') (hg : ¬ P g) : Blk w' g t cs := (hf.block g h.lt hg).trans h
theorem own_foot {base : Nat} {e : TypeId} {size n : Nat} {v : Value} {xs : List Value} (h : w.ownsRow base e size v n xs) (hf : Foot P w w') (hg : ∀ k, v.ownBlock = some k → ¬ P k) : w'.ownsRow base e size v n xs := by
  refine ⟨h.1, ?_⟩
  rcases h.2 with hn | ⟨g, cap, cur, rfl, h2, h3, h4⟩
  · exact .inl hn
  · exact .inr ⟨g, cap, cur, rfl, h2, (hf.block g (Blk.lt (t := e) h3) (hg g rfl)).trans h3, h4⟩
theorem RdL.foot {α : Type} {enc : α → List Value} {size B : Nat} {A : Option Addr} {l : List α} (h : RdL enc size w B A l) (hf : Foot P w w') (hB : B ≤ w.heap.size) (hg : ∀ k, k < B → ¬ P k) : RdL enc size w' B A l :=
  h.keep fun p hp => World.cell?_of_block (hf.block p.block (by omega) (hg _ hp))
end

theorem get_mem' {α : Type} {l : List α} {k : Nat} {x : α} (h : l[k]? = some x) : x ∈ l := List.mem_of_getElem? h
def encU (x : Nat) : List Value := [.int .u64 (x : Int)]
def wordBit (ws : List Nat) (k : Nat) : Bool := (ws.getD (k / 64) 0).testBit (k % 64)
/-- words that hold the set S -/
structure Rep (ws : List Nat) (S : Nat) : Prop where
  lt : ∀ x ∈ ws, x < 18446744073709551616
  bit : ∀ k, S.testBit k = wordBit ws k
  len : ws.length ≤ 16384
/-- *bits.Set: box b, its words a row of the call's own -/
structure SetAt (W : World) (base b : Nat) (A : Option Addr) (c : Nat) (ws : List Nat) (S : Nat) : Prop where
  box : Blk W b 97 #[.bool true, .slice A ws.length c]
  row : W.ownsRow base 98 1 (.slice A ws.length c) ws.length (ws.flatMap encU)
  rep : Rep ws S
  hb : base ≤ b
section
variable {W W' : World} {base b c S : Nat} {A : Option Addr} {ws : List Nat}
theorem ownBlock_sl (A : Option Addr) (n c : Nat) : (Value.slice A n c).ownBlock = A.map (·.block) := by cases A <;> rfl
/-- the blocks of a set -/
def setBlks (b : Nat) (A : Option Addr) (i : Nat) : Prop := i = b ∨ A.map (·.block) = some i
theorem SetAt.foot {P : Nat → Prop} (h : SetAt W base b A c ws S) (hf : Foot P W W') (hn : ∀ i, setBlks b A i → ¬ P i) : SetAt W' base b A c ws S :=
  ⟨h.box.foot hf (hn b (.inl rfl)), own_foot h.row hf fun k hk => hn k (.inr (by rw [← ownBlock_sl]; exact hk)), h.rep, h.hb⟩
theorem SetAt.below (h : SetAt W base b A c ws S) (hb : Below W.heap.size W W') : SetAt W' base b A c ws S :=
  h.foot (Foot.of_below hb) (by
    intro i hi hle
    rcases hi with rfl | hi
    · have := h.box.lt; omega
    · have := (h.row.lt i (by rw [ownBlock_sl]; exact hi)).2; omega)
theorem flatU_get {ws : List Nat} {k x : Nat} (h : ws[k]? = some x) : (ws.flatMap encU)[k]? = some (.int .u64 (x : Int)) := by
  have := flat_get (enc := encU) (size := 1) (fun _ => rfl) ws k 0 x (.int .u64 (x : Int)) h rfl
  simpa using this
theorem SetAt.word (h : SetAt W base b A c ws S) {k x : Nat} (hk : ws[k]? = some x) : ∃ g, A = some ⟨g, 0, none⟩ ∧ g < W.heap.size ∧ base ≤ g ∧ g ≠ b ∧ W.cell? ⟨g, k, none⟩ = some (.int .u64 (x : Int)) ∧ W.frozen? ⟨g, k, none⟩ = false := by
  have hlt := (List.getElem?_eq_some_iff.1 hk).1
  obtain ⟨g, cap, hv, hbg, hgl⟩ := h.row.form (by omega)
  injection hv with hv h2 h3
  subst hv h3
  have h1 := h.row.cells (g := g) rfl k _ (flatU_get hk)
  rw [add_plain', Nat.zero_add] at h1
  refine ⟨g, rfl, hgl, hbg, fun e => own_blk_ne h.row h.box (by decide) (by rw [e]; rfl), h1, ?_⟩
  rcases h.row.2 with ⟨hv, _⟩ | ⟨g', cap', cur, hv, _, hh, _⟩
  · cases hv
  · injection hv with hv
    injection hv with hv
    injection hv with hv
    subst hv
    exact Blk.frozen (t := 98) hh k
theorem SetAt.word_get (h : SetAt W base b A c ws S) {k : Nat} (hk : k / 64 < ws.length) : ∃ x, ws[k / 64]? = some x ∧ x < 18446744073709551616 ∧ S.testBit k = x.testBit (k % 64) := by
  obtain ⟨x, hx⟩ := get_some hk
  refine ⟨x, hx, h.rep.lt x (get_mem' hx), ?_⟩
  rw [h.rep.bit k]
  unfold wordBit
  rw [List.getD_eq_getElem?_getD, hx]
  rfl
theorem SetAt.out (h : SetAt W base b A c ws S) {k : Nat} (hk : ws.length ≤ k / 64) : S.testBit k = false := by
  rw [h.rep.bit k]
  unfold wordBit
  rw [List.getD_eq_getElem?_getD, List.getElem?_eq_none hk]
  simp
end
end Go.Proofs.YtgdnpmpnkbnjaaaGreatDoor
namespace Go.Proofs.YtgdnpmpnkbnjaaaGreatDoor
open Go.RowKit

/-- the ways on from instruction i, rising -/
def onN (code : List Ins) (i : Nat) : List Nat :=
  match code[i]? with
  | none => []
  | some x =>
    if x.op = 20 then []
    else if x.op = 8 then [x.n.toNat]
    else if x.op = 9 then (if x.n.toNat < i + 1 then [x.n.toNat, i + 1] else if x.n.toNat = i + 1 then [i + 1] else [i + 1, x.n.toNat])
    else [i + 1]
/-- what Check says of the code of a program that it takes -/
structure OkCode (code : List Ins) : Prop where
  pos : 0 < code.length
  le : code.length ≤ 4096
  jmp : ∀ (i : Nat) (x : Ins), code[i]? = some x → x.op = 8 ∨ x.op = 9 → 0 ≤ x.n ∧ x.n < code.length
  fall : ∀ (i : Nat) (x : Ins), code[i]? = some x → x.op ≠ 8 → x.op ≠ 20 → i + 1 < code.length
theorem on_lt {code : List Ins} (h : OkCode code) {i k : Nat} (hk : k ∈ onN code i) : k < code.length := by
  unfold onN at hk
  split at hk
  · simp at hk
  · next x hx =>
    split at hk
    · simp at hk
    · next h20 =>
      split at hk
      · next h8 =>
        have := h.jmp i x hx (.inl h8)
        simp at hk; omega
      · next h8 =>
        have hf := h.fall i x hx h8 h20
        split at hk
        · next h9 =>
          have := h.jmp i x hx (.inr h9)
          split at hk
          · simp at hk; omega
          · split at hk
            · simp at hk; omega
            · simp at hk; omega
        · simp at hk; omega
theorem on_two {code : List Ins} (i : Nat) : (onN code i).length ≤ 2 := by
  unfold onN
  split
  · simp
  · split
    · simp
    · split
      · simp
      · split
        · split
          · simp
          · split <;> simp
        · simp
/-- what can be come to -/
inductive Come (code : List Ins) : Nat → Prop
  | zero : Come code 0
  | step {i k : Nat} : Come code i → k ∈ onN code i → Come code k
theorem Come.lt {code : List Ins} (h : OkCode code) {k : Nat} (hc : Come code k) : k < code.length := by
  cases hc with
  | zero => exact h.pos
  | step _ hk => exact on_lt h hk

/-- the number whose bits below n are those of which P holds -/
noncomputable def maskOf (P : Nat → Prop) : Nat → Nat
  | 0 => 0
  | n + 1 => open Classical in if P n then maskOf P n ||| 2 ^ n else maskOf P n
theorem testBit_two_pow' (n k : Nat) : (2 ^ n).testBit k = decide (n = k) := Nat.testBit_two_pow
theorem maskOf_bit (P : Nat → Prop) : ∀ (n k : Nat), (maskOf P n).testBit k = true ↔ k < n ∧ P k
  | 0, k => by simp [maskOf]
  | n + 1, k => by
    have ih := maskOf_bit P n k
    unfold maskOf
    split
    · next hp =>
      rw [Nat.testBit_or, Bool.or_eq_true, ih, testBit_two_pow', decide_eq_true_iff]
      constructor
      · rintro (⟨h1, h2⟩ | rfl)
        · exact ⟨by omega, h2⟩
        · exact ⟨by omega, hp⟩
      · rintro ⟨h1, h2⟩
        rcases Nat.lt_or_ge k n with h | h
        · exact .inl ⟨h, h2⟩
        · exact .inr (by omega)
    · next hp =>
      rw [ih]
      constructor
      · rintro ⟨h1, h2⟩
        exact ⟨by omega, h2⟩
      · rintro ⟨h1, h2⟩
        refine ⟨?_, h2⟩
        rcases Nat.lt_or_ge k n with h | h
        · exact h
        · obtain rfl : k = n := by omega
          exact absurd h2 hp
theorem mask_ext {a b : Nat} (h : ∀ k, a.testBit k = true ↔ b.testBit k = true) : a = b :=
  Nat.eq_of_testBit_eq fun k => by
    have := h k
    cases ha : a.testBit k <;> cases hb : b.testBit k <;> simp_all
/-- the numbers in a set, rising -/
def listM (S : Nat) : List Nat := (List.range (S.log2 + 1)).filter fun k => S.testBit k
theorem listM_mem (S k : Nat) : k ∈ listM S ↔ S.testBit k = true := by
  unfold listM
  rw [List.mem_filter, List.mem_range]
  constructor
  · exact fun h => h.2
  · intro h
    refine ⟨?_, h⟩
    have hle : 2 ^ k ≤ S := Nat.ge_two_pow_of_testBit h
    have hS : S ≠ 0 := by
      intro e
      subst e
      simp at h
    have := (Nat.le_log2 hS).2 hle
    omega
theorem listM_bound (S B : Nat) (h : ∀ k, S.testBit k = true → k < B) : listM S = (List.range B).filter fun k => S.testBit k := by
  have hp : ∀ (l : List Nat), l.Pairwise (· < ·) → (l.filter fun k => S.testBit k).Pairwise (· < ·) := fun l hl => hl.filter _
  refine List.Perm.eq_of_pairwise (le := (· < ·)) (fun a b _ _ h1 h2 => absurd h1 (by omega)) (hp _ List.pairwise_lt_range) (hp _ List.pairwise_lt_range) ?_
  refine (List.perm_ext_iff_of_nodup (List.nodup_range.filter _) (List.nodup_range.filter _)).2 fun a => ?_
  have := listM_mem S a
  unfold listM at this
  rw [this, List.mem_filter, List.mem_range]
  exact ⟨fun h1 => ⟨h a h1, h1⟩, fun h1 => h1.2⟩
noncomputable def comeM (code : List Ins) : Nat := maskOf (Come code) code.length
theorem comeM_bit {code : List Ins} (h : OkCode code) (k : Nat) : (comeM code).testBit k = true ↔ Come code k := by
  unfold comeM
  rw [maskOf_bit]
  exact ⟨fun h1 => h1.2, fun h1 => ⟨h1.lt h, h1⟩⟩
/-- what a worklist's set is once the list is empty -/
theorem come_done {code : List Ins} (h : OkCode code) {S : Nat} (h0 : S.testBit 0 = true) (hs : ∀ k, S.testBit k = true → Come code k) (hc : ∀ i k, S.testBit i = true → k ∈ onN code i → S.testBit k = true) : S = comeM code := by
  refine mask_ext fun k => ?_
  rw [comeM_bit h]
  refine ⟨hs k, fun hk => ?_⟩
  induction hk with
  | zero => exact h0
  | step _ hk ih => exact hc _ _ ih hk
end Go.Proofs.YtgdnpmpnkbnjaaaGreatDoor
namespace Go.Proofs.YtgdnpmpnkbnjaaaGreatDoor

theorem byte_bit (b y k : Nat) (hb : b < 256) : (b + 256 * y).testBit k = if k < 8 then b.testBit k else y.testBit (k - 8) := by
  have := Nat.testBit_two_pow_mul_add y (i := 8) (b := b) (by omega) k
  rw [show b + 256 * y = 2 ^ 8 * y + b by omega]
  exact this
theorem mask_part (sh m b y z : Nat) (hm : m < 2 ^ (8 - sh)) (hs : sh ≤ 8) (hb : b < 256) : ((b + 256 * y) >>> sh) &&& (m + 256 * z) = ((b >>> sh) &&& m) + 256 * ((y >>> sh) &&& z) := by
  have hm8 : m < 256 := Nat.lt_of_lt_of_le hm (Nat.pow_le_pow_right (by omega) (by omega : 8 - sh ≤ 8))
  have hlt : (b >>> sh) &&& m < 256 := Nat.lt_of_le_of_lt Nat.and_le_right hm8
  apply Nat.eq_of_testBit_eq
  intro k
  rw [Nat.testBit_and, Nat.testBit_shiftRight, byte_bit _ _ _ hb, byte_bit _ _ _ hm8, byte_bit _ _ _ hlt]
  by_cases hk : k < 8
  · rw [if_pos hk, if_pos hk, Nat.testBit_and, Nat.testBit_shiftRight]
    by_cases hk2 : sh + k < 8
    · rw [if_pos hk2]
    · have : m.testBit k = false := Nat.testBit_lt_two_pow (Nat.lt_of_lt_of_le hm (Nat.pow_le_pow_right (by omega) (by omega)))
      rw [this]
      simp
  · rw [if_neg hk, if_neg hk, if_neg (by omega), Nat.testBit_and, Nat.testBit_shiftRight, show sh + k - 8 = sh + (k - 8) by omega]
def rep (m : Nat) : Nat → Nat
  | 0 => 0
  | n + 1 => m + 256 * rep m n
def st1 (m x : Nat) : Nat := ((x >>> 1) &&& m) + (x &&& m)
def st2 (m x : Nat) : Nat := ((x >>> 2) &&& m) + (x &&& m)
def st3 (m x : Nat) : Nat := ((x >>> 4) + x) &&& m
theorem st1_part (b y n : Nat) (hb : b < 256) : st1 (rep 85 (n + 1)) (b + 256 * y) = st1 85 b + 256 * st1 (rep 85 n) y := by
  have h1 := mask_part 1 85 b y (rep 85 n) (by decide) (by decide) hb
  have h0 := mask_part 0 85 b y (rep 85 n) (by decide) (by decide) hb
  simp only [Nat.shiftRight_zero] at h0
  unfold st1
  rw [show rep 85 (n + 1) = 85 + 256 * rep 85 n from rfl, h1, h0]
  omega
theorem st2_part (b y n : Nat) (hb : b < 256) : st2 (rep 51 (n + 1)) (b + 256 * y) = st2 51 b + 256 * st2 (rep 51 n) y := by
  have h1 := mask_part 2 51 b y (rep 51 n) (by decide) (by decide) hb
  have h0 := mask_part 0 51 b y (rep 51 n) (by decide) (by decide) hb
  simp only [Nat.shiftRight_zero] at h0
  unfold st2
  rw [show rep 51 (n + 1) = 51 + 256 * rep 51 n from rfl, h1, h0]
  omega
/-- the third step on a byte whose nibbles are at most 4 -/
theorem st3_part (b y n : Nat) (hb : b % 16 ≤ 4 ∧ b / 16 ≤ 4) (hy : y % 16 ≤ 4) : st3 (rep 15 (n + 1)) (b + 256 * y) = (b % 16 + b / 16) + 256 * st3 (rep 15 n) y := by
  unfold st3
  have e : ((b + 256 * y) >>> 4) + (b + 256 * y) = (b % 16 + b / 16 + 16 * (b / 16 + y % 16)) + 256 * ((y >>> 4) + y) := by
    simp only [Nat.shiftRight_eq_div_pow]
    omega
  have h0 := mask_part 0 15 (b % 16 + b / 16 + 16 * (b / 16 + y % 16)) ((y >>> 4) + y) (rep 15 n) (by decide) (by decide) (by omega)
  simp only [Nat.shiftRight_zero] at h0
  rw [e, show rep 15 (n + 1) = 15 + 256 * rep 15 n from rfl, h0]
  have : (b % 16 + b / 16 + 16 * (b / 16 + y % 16)) &&& 15 = b % 16 + b / 16 := by
    rw [show (15 : Nat) = 2 ^ 4 - 1 by decide, Nat.and_two_pow_sub_one_eq_mod]
    omega
  rw [this]
/-- how many of the first n bits are set -/
def pop : Nat → Nat → Nat
  | 0, _ => 0
  | n + 1, x => (x.testBit n).toNat + pop n x
theorem pop_split (n m x : Nat) : pop (n + m) x = pop n x + pop m (x >>> n) := by
  induction m with
  | zero => simp [pop]
  | succ m ih =>
    rw [Nat.add_succ]
    simp only [pop, ih, Nat.testBit_shiftRight]
    omega
theorem byte_pop : ∀ b : Nat, b < 256 → (st2 51 (st1 85 b)) % 16 + (st2 51 (st1 85 b)) / 16 = pop 8 b ∧ st2 51 (st1 85 b) % 16 ≤ 4 ∧ st2 51 (st1 85 b) / 16 ≤ 4 ∧ st1 85 b < 256 := by decide +kernel
theorem pop_eq (n : Nat) : ∀ x y : Nat, (∀ k, k < n → x.testBit k = y.testBit k) → pop n x = pop n y := by
  induction n with
  | zero => intros; rfl
  | succ n ih =>
    intro x y h
    simp only [pop]
    rw [h n (by omega), ih x y fun k hk => h k (by omega)]
theorem pop_byte (b y : Nat) (hb : b < 256) : pop 8 (b + 256 * y) = pop 8 b := pop_eq 8 _ _ fun k hk => by rw [byte_bit _ _ _ hb, if_pos hk]
/-- the bytes' counts, one beside the other -/
def pops : Nat → Nat → Nat
  | 0, _ => 0
  | n + 1, x => pop 8 (x % 256) + 256 * pops n (x / 256)
theorem st_pops : ∀ (n x : Nat), x < 256 ^ n → st3 (rep 15 n) (st2 (rep 51 n) (st1 (rep 85 n) x)) = pops n x ∧ (st2 (rep 51 n) (st1 (rep 85 n) x)) % 16 ≤ 4
  | 0, x, h => by
    have : x = 0 := by simpa using h
    subst this
    simp [st3, st2, st1, rep, pops]
  | n + 1, x, h => by
    have hx : x = x % 256 + 256 * (x / 256) := by omega
    have hlt : x % 256 < 256 := Nat.mod_lt _ (by decide)
    obtain ⟨h1, h2, h3, h4⟩ := byte_pop (x % 256) hlt
    obtain ⟨i1, i2⟩ := st_pops n (x / 256) (by rw [Nat.pow_succ] at h; omega)
    have e1 : st1 (rep 85 (n + 1)) x = st1 85 (x % 256) + 256 * st1 (rep 85 n) (x / 256) := by
      have := st1_part (x % 256) (x / 256) n hlt
      rw [← hx] at this
      exact this
    have e2 : st2 (rep 51 (n + 1)) (st1 (rep 85 (n + 1)) x) = st2 51 (st1 85 (x % 256)) + 256 * st2 (rep 51 n) (st1 (rep 85 n) (x / 256)) := by rw [e1]; exact st2_part _ _ n h4
    refine ⟨?_, ?_⟩
    · rw [e2, st3_part _ _ n ⟨h2, h3⟩ i2, h1, i1]
      rfl
    · rw [e2]; omega
theorem pop8_le : ∀ b : Nat, pop 8 b ≤ 8 := fun b => by
  simp only [pop]
  have := fun k => Bool.toNat_le (b.testBit k)
  have h0 := this 0; have h1 := this 1; have h2 := this 2; have h3 := this 3; have h4 := this 4; have h5 := this 5; have h6 := this 6; have h7 := this 7
  omega
theorem pops_sum (x : Nat) :
    ∃ g0 g1 g2 g3 g4 g5 g6 g7 : Nat, pops 8 x = g0 + 256 * (g1 + 256 * (g2 + 256 * (g3 + 256 * (g4 + 256 * (g5 + 256 * (g6 + 256 * g7)))))) ∧ pop 64 x = g0 + g1 + g2 + g3 + g4 + g5 + g6 + g7 ∧ g0 ≤ 8 ∧ g1 ≤ 8 ∧ g2 ≤ 8 ∧ g3 ≤ 8 ∧ g4 ≤ 8 ∧ g5 ≤ 8 ∧ g6 ≤ 8 ∧ g7 ≤ 8 := by
  have hp : ∀ i y, pop 8 ((y >>> (8 * i)) % 256) = pop 8 (y >>> (8 * i)) := fun i y => by
    have h := pop_byte ((y >>> (8 * i)) % 256) ((y >>> (8 * i)) / 256) (Nat.mod_lt _ (by decide))
    rw [show (y >>> (8 * i)) % 256 + 256 * ((y >>> (8 * i)) / 256) = y >>> (8 * i) by omega] at h
    exact h.symm
  have hs : pop 64 x = pop 8 (x >>> 0) + (pop 8 (x >>> 8) + (pop 8 (x >>> 16) + (pop 8 (x >>> 24) + (pop 8 (x >>> 32) + (pop 8 (x >>> 40) + (pop 8 (x >>> 48) + pop 8 (x >>> 56))))))) := by
    have e := fun n m y => pop_split n m y
    rw [show (64 : Nat) = 8 + 56 by rfl, e, show (56 : Nat) = 8 + 48 by rfl, e, show (48 : Nat) = 8 + 40 by rfl, e, show (40 : Nat) = 8 + 32 by rfl, e, show (32 : Nat) = 8 + 24 by rfl, e, show (24 : Nat) = 8 + 16 by rfl, e, show (16 : Nat) = 8 + 8 by rfl, e]
    simp only [← Nat.shiftRight_add, Nat.shiftRight_zero]
  have he : pops 8 x = pop 8 (x % 256) + 256 * (pop 8 (x / 256 % 256) + 256 * (pop 8 (x / 256 / 256 % 256) + 256 * (pop 8 (x / 256 / 256 / 256 % 256) + 256 * (pop 8 (x / 256 / 256 / 256 / 256 % 256) + 256 * (pop 8 (x / 256 / 256 / 256 / 256 / 256 % 256) + 256 * (pop 8 (x / 256 / 256 / 256 / 256 / 256 / 256 % 256) + 256 * pop 8 (x / 256 / 256 / 256 / 256 / 256 / 256 / 256 % 256))))))) := by
    simp only [pops, Nat.mul_zero, Nat.add_zero]
  refine ⟨_, _, _, _, _, _, _, _, he, ?_, pop8_le _, pop8_le _, pop8_le _, pop8_le _, pop8_le _, pop8_le _, pop8_le _, pop8_le _⟩
  rw [hs]
  have h0 := hp 0 x; have h1 := hp 1 x; have h2 := hp 2 x; have h3 := hp 3 x; have h4 := hp 4 x; have h5 := hp 5 x; have h6 := hp 6 x; have h7 := hp 7 x
  simp only [Nat.shiftRight_eq_div_pow, Nat.reduceMul, Nat.reducePow, Nat.div_one, Nat.div_div_eq_div_mul] at h0 h1 h2 h3 h4 h5 h6 h7 ⊢
  omega
def val : List Nat → Nat
  | [] => 0
  | g :: r => g + 256 * val r
theorem val_div {g : Nat} {r : List Nat} (h : g < 256) : val (g :: r) / 256 = val r := by simp only [val]; omega
theorem val_add (a b : Nat) (r s : List Nat) : val (a :: r) + val (b :: s) = val ((a + b) :: []) + 256 * (val r + val s) := by simp only [val]; omega
theorem val_one (a : Nat) (r : List Nat) (n : Nat) (h : n = val r) : val (a :: []) + 256 * n = val (a :: r) := by subst h; simp only [val]; omega
theorem val_mod (g : Nat) (r : List Nat) : val (g :: r) % 128 = g % 128 := by simp only [val]; omega
set_option maxHeartbeats 1000000 in
/-- the sum of the bytes, as the last three steps reckon it -/
theorem pop_tail (x : Nat) : ∃ t1 t2 t3 : Nat, t1 = pops 8 x + pops 8 x / 256 ∧ t2 = t1 + t1 / 65536 ∧ t3 = t2 + t2 / 4294967296 ∧ pops 8 x < 18446744073709551616 ∧ t1 < 18446744073709551616 ∧ t2 < 18446744073709551616 ∧ t3 < 18446744073709551616 ∧ t3 % 128 = pop 64 x ∧ pop 64 x ≤ 64 := by
  obtain ⟨g0, g1, g2, g3, g4, g5, g6, g7, h, hp, b0, b1, b2, b3, b4, b5, b6, b7⟩ := pops_sum x
  have e0 : pops 8 x = val [g0, g1, g2, g3, g4, g5, g6, g7] := by rw [h]; simp only [val]; omega
  have e1 : val [g0, g1, g2, g3, g4, g5, g6, g7] + val [g0, g1, g2, g3, g4, g5, g6, g7] / 256 = val [g0 + g1, g1 + g2, g2 + g3, g3 + g4, g4 + g5, g5 + g6, g6 + g7, g7] := by
    rw [val_div (by omega)]
    repeat' (first | rfl | (rw [val_add]; refine val_one _ _ _ ?_))
    all_goals simp [val]
  have e2 : val [g0 + g1, g1 + g2, g2 + g3, g3 + g4, g4 + g5, g5 + g6, g6 + g7, g7] + val [g0 + g1, g1 + g2, g2 + g3, g3 + g4, g4 + g5, g5 + g6, g6 + g7, g7] / 65536 =
      val [g0 + g1 + (g2 + g3), g1 + g2 + (g3 + g4), g2 + g3 + (g4 + g5), g3 + g4 + (g5 + g6), g4 + g5 + (g6 + g7), g5 + g6 + g7, g6 + g7, g7] := by
    rw [show (65536 : Nat) = 256 * 256 by rfl, ← Nat.div_div_eq_div_mul, val_div (by omega), val_div (by omega)]
    repeat' (first | rfl | (rw [val_add]; refine val_one _ _ _ ?_))
    all_goals simp [val]
  have e3 : val [g0 + g1 + (g2 + g3), g1 + g2 + (g3 + g4), g2 + g3 + (g4 + g5), g3 + g4 + (g5 + g6), g4 + g5 + (g6 + g7), g5 + g6 + g7, g6 + g7, g7] + val [g0 + g1 + (g2 + g3), g1 + g2 + (g3 + g4), g2 + g3 + (g4 + g5), g3 + g4 + (g5 + g6), g4 + g5 + (g6 + g7), g5 + g6 + g7, g6 + g7, g7] / 4294967296 =
      val [g0 + g1 + (g2 + g3) + (g4 + g5 + (g6 + g7)), g1 + g2 + (g3 + g4) + (g5 + g6 + g7), g2 + g3 + (g4 + g5) + (g6 + g7), g3 + g4 + (g5 + g6) + g7, g4 + g5 + (g6 + g7), g5 + g6 + g7, g6 + g7, g7] := by
    rw [show (4294967296 : Nat) = 256 * 256 * 256 * 256 by rfl, ← Nat.div_div_eq_div_mul, ← Nat.div_div_eq_div_mul, ← Nat.div_div_eq_div_mul, val_div (by omega), val_div (by omega), val_div (by omega), val_div (by omega)]
    repeat' (first | rfl | (rw [val_add]; refine val_one _ _ _ ?_))
    all_goals simp [val]
  have hb : ∀ a0 a1 a2 a3 a4 a5 a6 a7 : Nat, a0 < 256 → a1 < 256 → a2 < 256 → a3 < 256 → a4 < 256 → a5 < 256 → a6 < 256 → a7 < 256 → val [a0, a1, a2, a3, a4, a5, a6, a7] < 18446744073709551616 := by
    intro a0 a1 a2 a3 a4 a5 a6 a7 h0 h1 h2 h3 h4 h5 h6 h7
    simp only [val]
    omega
  refine ⟨_, _, _, rfl, rfl, rfl, ?_⟩
  rw [e0, e1, e2, e3, val_mod, hp]
  exact ⟨hb _ _ _ _ _ _ _ _ (by omega) (by omega) (by omega) (by omega) (by omega) (by omega) (by omega) (by omega), hb _ _ _ _ _ _ _ _ (by omega) (by omega) (by omega) (by omega) (by omega) (by omega) (by omega) (by omega), hb _ _ _ _ _ _ _ _ (by omega) (by omega) (by omega) (by omega) (by omega) (by omega) (by omega) (by omega), hb _ _ _ _ _ _ _ _ (by omega) (by omega) (by omega) (by omega) (by omega) (by omega) (by omega) (by omega), by omega, by omega⟩
end Go.Proofs.YtgdnpmpnkbnjaaaGreatDoor
