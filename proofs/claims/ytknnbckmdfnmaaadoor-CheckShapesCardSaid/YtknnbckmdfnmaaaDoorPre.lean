/- append onto a row of the call's own: what stood in the row's first cells stands there still, wherever the new slice lies. No condition. -/
import Derived.Test.YtknnbckmdfnmaaaDoorMemB
namespace Go.Proofs.YtknnbckmdfnmaaaDoor
open Go.RowKit

section
variable {P : Program} (w : World)
theorem run_append_pre (base : Nat) (t ty e : TypeId) (i : TypeInfo) (z : Value) (size bytes : Nat) (ht : P.underlying t = some (.slice e)) (hi : P.info? e = some i) (hz : i.zero = some z)
    (hsize : i.size = size) (hby : i.bytes = bytes) (v : Value) (n : Nat) (xs : List Value) (hown : w.ownsRow base e size v n xs)
    (ad : Addr) (m c : Nat) (news : List Value) (hl : news.length = m * size) (hnews : ∀ j u, news[j]? = some u → w.cell? (ad.add j) = some u) (h1 : ∀ u ∈ news, u.oneCell' = true)
    (h63 : n + m ≤ maxLen) (hbytes : (n + m) * bytes ≤ 140737488355328) {v' : Value} {w' : World}
    (hr : (Builtin.append_ #[t, t] ty #[v, .slice (some ad) m c]).run P w = .ok v' w') : ∀ g j, v.ownBlock = some g → j < n * size → w'.cell? ⟨g, j, none⟩ = w.cell? ⟨g, j, none⟩ := by
  subst hsize
  subst hby
  intro g j hg hj
  rcases hown.2 with ⟨rfl, _⟩ | ⟨g', cap, cur, rfl, hbg, hh, hnc, hcm, hcs, htake⟩
  · cases hg
  · have hgg : g' = g := by simpa [Value.ownBlock] using hg
    subst hgg
    by_cases hroom : n + m ≤ cap
    · have hfit : n * i.size + news.length ≤ cur.size := by rw [hl, hcs, ← Nat.add_mul]; exact Nat.mul_le_mul_right _ hroom
      rw [run_append_room (P := P) w t ty e i ht hi g' n cap cur hh ad m c news hl hnews h1 hroom hfit] at hr
      injection hr with _ hr
      subst hr
      rw [cell_setRow_same w g' j cur _ e (0, 0) hh, cell_of_row w g' j cur e (0, 0) hh]
      have hjl : j < (cur.toList.take (n * i.size)).length := by simp only [List.length_take, Array.length_toList]; omega
      simp only [List.append_assoc, List.getElem?_toArray]
      rw [List.getElem?_append_left hjl, List.getElem?_take, if_pos hj]
      simp
    · have holds : ∀ j u, xs[j]? = some u → w.cell? ((⟨g', 0, none⟩ : Addr).add j) = some u := hown.cells (g := g') rfl
      rw [run_append_grow (P := P) w t ty e i z ht hi hz ⟨g', 0, none⟩ n cap xs hown.1 holds ad m c news hl hnews (by omega) (by simp only [maxLen] at h63; omega) (growslice_fits (by omega) hbytes)] at hr
      injection hr with _ hr
      subst hr
      exact World.cell?_alloc_lt w.drew _ ⟨g', j, none⟩ (by have := (Array.getElem?_eq_some_iff.1 hh).1; simpa using this)
/-- one element (a row of cells in the block that was made last) appended to a row of the call's own -/
theorem wpList_append_pre {ops : Array Oper} {rest : List Oper} {o : Oper} {a : Act} {Q : Exit → Act → World → Prop} (hgd : o.guard = none) (s x : Operand) (t : TypeId)
    (ho : o.op = .call { callee := .builtin .append, args := #[s, x], argTypes := #[t, t] })
    (W : World) (cs : Array Value) (base : Nat) (e : TypeId) (i : TypeInfo) (z : Value) (size bytes : Nat) (ht : P.underlying t = some (.slice e)) (hi : P.info? e = some i) (hz : i.zero = some z)
    (hsize : i.size = size) (hby : i.bytes = bytes) (hzs : z.cells.size = size) (hsz : 0 < size)
    (v : Value) (n : Nat) (xs : List Value) (hs : a.eval s = v) (G : Nat) (hx : a.eval x = .slice (some ⟨G, 0, none⟩) 1 1) (hG : W.heap.size = G) (hcs : cs.toList.length = size) (h1 : ∀ u ∈ cs.toList, u.oneCell' = true)
    (hown : W.ownsRow base e size v n xs) (h63 : n + 1 ≤ maxLen) (hbytes : (n + 1) * bytes ≤ 140737488355328) (hbase : base ≤ W.heap.size)
    (h : ∀ g cap w', w'.ownsRow base e size (.slice (some ⟨g, 0, none⟩) (n + 1) cap) (n + 1) (xs ++ cs.toList) → W.grownBy w' v.ownBlock → (v.ownBlock = some g ∨ g = G + 1) → (∀ g j, v.ownBlock = some g → j < n * size → w'.cell? ⟨g, j, none⟩ = W.cell? ⟨g, j, none⟩) →
      wpList P ops Q rest (a.put o.dst (.slice (some ⟨g, 0, none⟩) (n + 1) cap)) w') : wpList P ops Q (o :: rest) a (W.alloc (.cells cs e)) := by
  subst hG
  have hnews := World.news_of_block (w := W.alloc (.cells cs e)) (B := W.heap.size) (cs := cs) (t := e) (fr := (0, 0)) (heap_alloc_new W _)
  obtain ⟨g, cap, w', hr, h2, h3, h4, _⟩ := run_append_lies (P := P) (W.alloc (.cells cs e)) t o.type base e i z size bytes ht hi hz hsize hby hzs hsz v n xs (hown.alloc _) ⟨W.heap.size, 0, none⟩ 1 1 cs.toList (by rw [hcs]; omega) hnews h1 (by omega) h63 hbytes (by simp; omega) (W.heap.size + 1) (by simp)
  have hp := run_append_pre (P := P) (W.alloc (.cells cs e)) base t o.type e i z size bytes ht hi hz hsize hby v n xs (hown.alloc _) ⟨W.heap.size, 0, none⟩ 1 1 cs.toList (by rw [hcs]; omega) hnews h1 h63 hbytes hr
  refine wpList_plain hgd fun K hK => ?_
  unfold Oper.wp execOp
  simp only [ho, resolve, invoke, builtin, Sem.run_bind, Sem.run_pure, Result.andThen_ok, List.map_toArray, List.map_cons, List.map_nil, hs, hx, hr]
  refine hK _ _ (h g cap w' h2 (World.grownBy.trans (World.grownBy_alloc W _ _) h3) h4 fun g j hg hj => (hp g j hg hj).trans ?_)
  have := (hown.lt g hg).2
  exact World.cell?_alloc_lt W _ ⟨g, j, none⟩ (by simpa using this)
end
theorem own_frozen {w : World} {base : Nat} {e : TypeId} {size n c g : Nat} {xs : List Value} (h : w.ownsRow base e size (.slice (some ⟨g, 0, none⟩) n c) n xs) (i : Nat) : w.frozen? ⟨g, i, none⟩ = false := by
  rcases h.2 with ⟨hv, _⟩ | ⟨g', cap, cur, hv, _, hh, _⟩
  · cases hv
  · injection hv with hv
    injection hv with hv
    injection hv with hv
    subst hv
    exact Blk.frozen (t := e) hh i
theorem own_cell {w : World} {base : Nat} {e : TypeId} {size n c g : Nat} {xs : List Value} (h : w.ownsRow base e size (.slice (some ⟨g, 0, none⟩) n c) n xs) {i : Nat} {u : Value} (hu : xs[i]? = some u) : w.cell? ⟨g, i, none⟩ = some u := by
  have h1 := World.ownsRow.cells h (g := g) rfl i u hu
  rw [add_plain', Nat.zero_add] at h1
  exact h1
/-- the first k of a row written over by v -/
def fill (v : Int) (k : Nat) (l : List Int) : List Value := List.replicate k (.int .i64 v) ++ (l.drop k).map (Value.int .i64)
theorem fill_zero (v : Int) (l : List Int) : fill v 0 l = l.flatMap fun x => [.int .i64 x] := by
  induction l with
  | nil => rfl
  | cons a r ih => simp only [fill, List.replicate_zero, List.drop_zero, List.nil_append, List.map_cons, List.flatMap_cons] at ih ⊢; rw [ih]; rfl
theorem fill_succ (v : Int) (k : Nat) (l : List Int) (h : k < l.length) : (fill v k l).set k (.int .i64 v) = fill v (k + 1) l := by
  unfold fill
  rw [List.set_append_right _ _ (by simp), List.length_replicate, Nat.sub_self, List.drop_eq_getElem_cons h, List.map_cons, List.set_cons_zero, List.replicate_succ', List.append_assoc]
  rfl
theorem fill_all (v : Int) (l : List Int) : fill v l.length l = List.replicate l.length (.int .i64 v) := by simp [fill]
theorem fill_get (v : Int) (k : Nat) (l : List Int) (h : k < l.length) : ∃ x : Int, (fill v k l)[k]? = some (.int .i64 x) := by
  refine ⟨l[k], ?_⟩
  unfold fill
  rw [List.getElem?_append_right (by simp), List.length_replicate, Nat.sub_self, List.getElem?_map, List.getElem?_drop, Nat.add_zero, List.getElem?_eq_getElem h]
  rfl
end Go.Proofs.YtknnbckmdfnmaaaDoor
