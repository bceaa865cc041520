/- What holds at flow.held's label, and what it answers. Plain. No condition. A slice of slices of numbers that is filled slot by slot. No condition. Plain words for abreastlaw13.known: which locks are held in the small program. No condition. Contracts of abreastlaw13.has, abreastref13.SameInts, SameLists. Conditions: the lists are read. Contract of slices.Contains at numbers. Condition: the list is read. -/
import Derived.Test.YtgdnpmpnkbnjaaaGreatDoorZTouches
import Derived.Test.YtgdnpmpnkbnjaaaGreatDoorZI
import Derived.ScopeJumps
import Derived.WalkMore
import Derived.Test.YtgdnpmpnkbnjaaaGreatDoorZJ
import Derived.Deep.QuietTactic
import Derived.BigQuiet
namespace Go.Proofs.YtgdnpmpnkbnjaaaGreatDoor
open Go.RowKit

theorem wp_scope_jumps3 {P : Program} {a : Act} {w : World} {Q : Exit → Act → World → Prop} {c R : Code} (l : Nat) (J : Act → World → Prop) (μ : Act → World → Nat) (hf : findLabel c l = some (Code.skip.seq R))
    (pass : ∀ a w, J a w → R.wp P (Exit.jump l (fun a' w' => J a' w' ∧ μ a' w' < μ a w) Q) a w)
    (first : (∀ a w, J a w → R.wp P (Exit.jump l J Q) a w) → c.wp P (Exit.jump l J Q) a w) : (Code.scope c).wp P Q a w :=
  wp_scope_jumps l J μ hf (first fun a w h => Code.wp_mono (fun e a' w' hq => by
    cases e with
    | goto l' => exact ⟨hq.1, hq.2.1⟩
    | normal => exact hq
    | exit id => exact hq
    | ret => exact hq
    | panic ch => exact hq
    | outgrown => exact hq) (pass a w h)) fun a w h => by
      have h1 := pass a w h
      go_wp2
      exact h1
theorem info_ptr : (Tryz.prog.info? 61).map (fun i => (i.zero, i.size, i.bytes)) = some (some (.pointer none), 1, 8) := by kernel_rfl
theorem new_none (w : World) : Calls Tryz.prog 27 #[.slice none 0 0] w fun e w' => ∃ A' c' ws', e = .returned (.tuple #[.pointer (some ⟨w.heap.size, 0, none⟩), .int .i64 0]) ∧ SetAt w' w.heap.size w.heap.size A' c' ws' 0 ∧ Below w.heap.size w w' :=
  new_set [] none 0 w (by simp) (by simp) RdL.nil_
theorem held_first {w0 W : World} {B g n : Nat} (h : W.ownsRow B 61 1 (.slice (some ⟨g, 0, none⟩) n n) n (List.replicate n (.pointer none))) (hb : Below B w0 W) : HeldAt w0 W B g n none (List.replicate n none) := by
  refine ⟨⟨fun i d hd => ?_, fun i j d e _ hd _ => ?_⟩, ?_, hb⟩
  · rcases i with _ | i
    · cases hd
    · rw [List.getElem?_cons_succ, List.getElem?_replicate] at hd
      split at hd <;> cases hd
  · rcases i with _ | i
    · cases hd
    · rw [List.getElem?_cons_succ, List.getElem?_replicate] at hd
      split at hd <;> cases hd
  · rw [List.length_replicate, List.map_replicate]
    exact h
theorem held_made {w1 w2 : World} {n : Nat} (h : w2.ownsRow w1.heap.size 61 1 (.slice (some ⟨w1.heap.size, 0, none⟩) n n) n (madeCells (Value.pointer none).cells (n * 1)).toList) (hg : w1.grownBy w2 none) : HeldAt w1 w2 w1.heap.size w1.heap.size n none (List.replicate n none) := by
  refine held_first ?_ ((Foot.of_grown hg).mono (Q := fun i => w1.heap.size ≤ i) (fun i _ e => by cases e) |>.below (Nat.le_refl _))
  have e : (madeCells (Value.pointer none).cells (n * 1)).toList = List.replicate n (.pointer none) := by
    rw [Nat.mul_one]
    exact toList_madeCells_one _ _
  rw [← e]
  exact h
def lstO : Option Nat → List Nat
  | none => []
  | some U => listM U
/-- lists of numbers, as a slice of slices reads -/
def LL (W : World) (B : Nat) (A : Option Addr) (ls : List (List Nat)) : Prop :=
  ∀ (i : Nat) (l : List Nat), ls[i]? = some l → ∃ g, A = some ⟨g, 0, none⟩ ∧ g < B ∧ ∃ A' c', W.cell? ⟨g, i, none⟩ = some (.slice A' l.length c') ∧ RdL encM 1 W B A' l
/-- likewise, all of it from block B on -/
def LLn (B : Nat) (W : World) (A : Option Addr) (ls : List (List Nat)) : Prop :=
  ∀ (i : Nat) (l : List Nat), ls[i]? = some l → ∃ g, A = some ⟨g, 0, none⟩ ∧ B ≤ g ∧ g < W.heap.size ∧ ∃ A' c', W.cell? ⟨g, i, none⟩ = some (.slice A' l.length c') ∧ RdL encM 1 W W.heap.size A' l ∧ NewA B A'
theorem LLn.ll {B : Nat} {W : World} {A : Option Addr} {ls : List (List Nat)} (h : LLn B W A ls) : LL W W.heap.size A ls := by
  intro i l hl
  obtain ⟨g, hA, _, hg, A', c', hc, hr, _⟩ := h i l hl
  exact ⟨g, hA, hg, A', c', hc, hr⟩
def HeldL (M : Nat → Nat → Nat) (p : Prg) (th : Int) (ls : List (List Nat)) : Prop :=
  (askedN p th = 0 ∧ ∃ st, Held M (p.codeAt th) st ∧ ls = st.map lstO) ∨ (askedN p th ≠ 0 ∧ ls = [])
def HeldPost (M : Nat → Nat → Nat) (p : Prg) (th : Int) (w : World) (e : Ending) (w' : World) : Prop :=
  ∃ A c ls, e = .returned (.tuple #[.slice A ls.length c, .int .i64 (askedN p th)]) ∧ HeldL M p th ls ∧ LLn w.heap.size w' A ls ∧ Below w.heap.size w w'
def blkOf : Value → Nat
  | .slice (some a) _ _ => a.block
  | _ => 0
def heldFr (f : Nat) (p : Prg) (th : Int) (t : Thr) (w : World) (g : Nat) (u : Nat → Value) : Act :=
  { tmps := #[p.val, .int .i64 th, .func (.func f) #[] #[], .pointer (some ⟨w.heap.size, 0, none⟩), u 4, u 5, .slice none 0 0, .int .i64 0, u 8, .slice t.Ac t.code.length t.cc, .slice (some ⟨g, 0, none⟩) t.code.length t.code.length, u 11, u 12, u 13, u 14, u 15, u 16, u 17, u 18, u 19, u 20, u 21, u 22, u 23, u 24, u 25, u 26, u 27, u 28, u 29, u 30, u 31, u 32, u 33, u 34, u 35, u 36, u 37, u 38, u 39, u 40, u 41, u 42, u 43, u 44, u 45, u 46, u 47, u 48, u 49, u 50, u 51, u 52, u 53, u 54, u 55, u 56, u 57, u 58, u 59, u 60, u 61, u 62, u 63, u 64, u 65, u 66, u 67, u 68, u 69, u 70, u 71, u 72, u 73, u 74, u 75, u 76, u 77, u 78, u 79, u 80, u 81, u 82, u 83, u 84, u 85, u 86, u 87, u 88, u 89, u 90, u 91, u 92, u 93, u 94, u 95, u 96, u 97, u 98, u 99, u 100, u 101, u 102, u 103, u 104, u 105, u 106, u 107, u 108, u 109, u 110, u 111, u 112, u 113, u 114, u 115, u 116, u 117, u 118, u 119, u 120], defers := [] }
def HeldJ (M : Nat → Nat → Nat) (f : Nat) (p : Prg) (th : Int) (t : Thr) (N : Nat) (w : World) (a : Act) (W : World) : Prop :=
  ∃ (w1 : World) (D : List (Option SetD)) (u : Nat → Value), a = heldFr f p th t w w1.heap.size u ∧ Below w.heap.size w w1 ∧ HeldAt w1 W w1.heap.size w1.heap.size t.code.length none D ∧ HInv M t.code N (stO D) ∧ D.length = t.code.length
theorem HeldJ.of {M : Nat → Nat → Nat} {f : Nat} {p : Prg} {th : Int} {t : Thr} {N : Nat} {w W : World} {a : Act} (w1 : World) (D : List (Option SetD)) (h : a = heldFr f p th t w w1.heap.size (fun i => a.tmps.getD i undef)) (hB : Below w.heap.size w w1) (hH : HeldAt w1 W w1.heap.size w1.heap.size t.code.length none D) (hI : HInv M t.code N (stO D)) (hl : D.length = t.code.length) : HeldJ M f p th t N w a W :=
  ⟨w1, D, _, h, hB, hH, hI, hl⟩
end Go.Proofs.YtgdnpmpnkbnjaaaGreatDoor
namespace Go.Proofs.YtgdnpmpnkbnjaaaGreatDoor
open Go.RowKit

theorem info_ints : (Tryz.prog.info? 28).map (fun i => (i.zero, i.size, i.bytes)) = some (some (.slice none 0 0), 1, 24) := by kernel_rfl
/-- the first i slots are filled -/
structure LB (W : World) (B gl n i : Nat) (ls : List (List Nat)) (vs : List Value) : Prop where
  row : W.ownsRow B 28 1 (.slice (some ⟨gl, 0, none⟩) n n) n vs
  len : ls.length = n
  full : ∀ (j : Nat) (l : List Nat), j < i → ls[j]? = some l → ∃ A c, vs[j]? = some (.slice A l.length c) ∧ W.ownsRow B 3 1 (.slice A l.length c) l.length (l.map encN1)
  free : ∀ j, i ≤ j → j < n → vs[j]? = some (.slice none 0 0)
section
variable {W W' : World} {B gl n i : Nat} {ls : List (List Nat)} {vs : List Value}
theorem LB.vlen (h : LB W B gl n i ls vs) : vs.length = n := by have := h.row.1; omega
theorem LB.lower (h : LB W B gl n i ls vs) (hb : Below W.heap.size W W') : LB W' B gl n i ls vs := by
  refine ⟨own_foot h.row (Foot.of_below hb) (fun k hk => by have := (h.row.lt k hk).2; omega), h.len, fun j l hj hl => ?_, h.free⟩
  obtain ⟨A, c, h1, h2⟩ := h.full j l hj hl
  exact ⟨A, c, h1, own_foot h2 (Foot.of_below hb) (fun k hk => by have := (h2.lt k hk).2; omega)⟩
theorem LB.skip (h : LB W B gl n i ls vs) (hi : i < n) (hl : ls[i]? = some []) : LB W B gl n (i + 1) ls vs := by
  refine ⟨h.row, h.len, fun j l hj hjl => ?_, fun j hj hn => h.free j (by omega) hn⟩
  rcases Nat.lt_or_ge j i with h1 | h1
  · exact h.full j l h1 hjl
  · obtain rfl : j = i := by omega
    rw [hl] at hjl
    obtain rfl := Option.some.inj hjl
    exact ⟨none, 0, h.free j (Nat.le_refl _) hi, World.ownsRow_nil _ _ _ _⟩
theorem LB.put {l : List Nat} {A : Option Addr} {c : Nat} (h : LB W B gl n i ls vs) (hi : i < n) (hl : ls[i]? = some l) (ho : W.ownsRow B 3 1 (.slice A l.length c) l.length (l.map encN1)) : LB (W.setCell ⟨gl, i, none⟩ (.slice A l.length c)) B gl n (i + 1) ls (vs.set i (.slice A l.length c)) := by
  have hf : Foot (fun k => k = gl) W (W.setCell ⟨gl, i, none⟩ (.slice A l.length c)) := Foot.setCell (P := fun k => k = gl) (Foot.refl _ _) (.inl rfl) _
  have hk : ∀ {A' : Option Addr} {c' : Nat} {l' : List Nat}, W.ownsRow B 3 1 (.slice A' l'.length c') l'.length (l'.map encN1) → (W.setCell ⟨gl, i, none⟩ (.slice A l.length c)).ownsRow B 3 1 (.slice A' l'.length c') l'.length (l'.map encN1) := fun h2 =>
    own_foot h2 hf (fun k hk e => own_own_ne h2 h.row (by decide) k hk (by subst e; rfl))
  refine ⟨own_set' h.row i _, h.len, fun j l' hj hjl => ?_, fun j hj hn => ?_⟩
  · rcases Nat.lt_or_ge j i with h1 | h1
    · obtain ⟨A', c', h2, h3⟩ := h.full j l' h1 hjl
      exact ⟨A', c', by rw [List.getElem?_set_ne (by omega)]; exact h2, hk h3⟩
    · obtain rfl : j = i := by omega
      rw [hl] at hjl
      obtain rfl := Option.some.inj hjl
      exact ⟨A, c, List.getElem?_set_self (by rw [h.vlen]; exact hi), hk ho⟩
  · rw [List.getElem?_set_ne (by omega)]
    exact h.free j (by omega) hn
theorem LB.get (h : LB W B gl n i ls vs) (hi : i < n) : gl < W.heap.size ∧ W.cell? ⟨gl, i, none⟩ = some (.slice none 0 0) ∧ W.frozen? ⟨gl, i, none⟩ = false := by
  have h1 := h.row.cells (g := gl) rfl i _ (h.free i (Nat.le_refl _) hi)
  rw [add_plain', Nat.zero_add] at h1
  obtain ⟨cs, hb⟩ := own_blk h.row (g := gl) rfl
  exact ⟨hb.lt, h1, hb.frozen i⟩
theorem LB.done (h : LB W B gl n n ls vs) : LL W W.heap.size (some ⟨gl, 0, none⟩) ls := by
  intro j l hl
  have hlt : j < n := by rw [← h.len]; exact (List.getElem?_eq_some_iff.1 hl).1
  obtain ⟨A, c, h1, h2⟩ := h.full j l hlt hl
  have h3 := h.row.cells (g := gl) rfl j _ h1
  rw [add_plain', Nat.zero_add] at h3
  obtain ⟨cs, hb⟩ := own_blk h.row (g := gl) rfl
  exact ⟨gl, rfl, hb.lt, A, c, h3, own_read h2 rfl⟩
theorem LB.doneN {B0 : Nat} (h : LB W B gl n n ls vs) (hB : B0 ≤ B) : LLn B0 W (some ⟨gl, 0, none⟩) ls := by
  intro j l hl
  have hlt : j < n := by rw [← h.len]; exact (List.getElem?_eq_some_iff.1 hl).1
  obtain ⟨A, c, h1, h2⟩ := h.full j l hlt hl
  have h3 := h.row.cells (g := gl) rfl j _ h1
  rw [add_plain', Nat.zero_add] at h3
  obtain ⟨cs, hb⟩ := own_blk h.row (g := gl) rfl
  exact ⟨gl, rfl, Nat.le_trans hB (h.row.lt gl rfl).1, hb.lt, A, c, h3, own_read h2 rfl, own_new h2 hB⟩
theorem LB.made {w1 w2 : World} {B n : Nat} {ls : List (List Nat)} (h : w2.ownsRow B 28 1 (.slice (some ⟨w1.heap.size, 0, none⟩) n n) n (madeCells (Value.slice none 0 0).cells (n * 1)).toList) (hl : ls.length = n) : LB w2 B w1.heap.size n 0 ls (List.replicate n (.slice none 0 0)) := by
  have e : (madeCells (Value.slice none 0 0).cells (n * 1)).toList = List.replicate n (.slice none 0 0) := by
    rw [Nat.mul_one]
    exact toList_madeCells_one _ _
  rw [e] at h
  refine ⟨h, hl, fun j l hj => absurd hj (by omega), fun j _ hn => ?_⟩
  rw [List.getElem?_replicate, if_pos hn]
end
/-- a store into a row of another type -/
theorem HeldAt.aside {w0 W w' : World} {B g cg n B' : Nat} {os : Option SetD} {D : List (Option SetD)} {e : TypeId} {i size gl : Nat} {xs : List Value} {x : Value} (h : HeldAt w0 W B g cg os D) (he : e ≠ 97 ∧ e ≠ 98 ∧ e ≠ 61) (ho : W.ownsRow B' e size (.slice (some ⟨gl, 0, none⟩) n n) n xs) (hB : B ≤ B') (hB0 : B ≤ w0.heap.size) (hw : w' = W.setCell ⟨gl, i, none⟩ x) : HeldAt w0 w' B g cg os D := by
  subst hw
  have hf : Foot (fun k => k = gl) W (W.setCell ⟨gl, i, none⟩ x) := Foot.setCell (P := fun k => k = gl) (Foot.refl _ _) (.inl rfl) _
  refine ⟨h.fam.foot hf fun i d hd k hk e2 => ?_, own_foot h.row hf fun k hk e2 => ?_, h.below.trans (Foot.below (hf.mono fun k _ hk => ?_) (h.size hB0))⟩
  · subst e2
    exact (h.fam.at_ i d hd).apart ho he.1 he.2.1 k rfl hk
  · subst e2
    exact own_own_ne ho h.row he.2.2 k rfl hk
  · subst hk
    exact Nat.le_trans hB (ho.lt k rfl).1
theorem below_made {w1 w2 : World} (hg : w1.grownBy w2 none) : Below w1.heap.size w1 w2 := (Foot.of_grown hg).mono (Q := fun i => w1.heap.size ≤ i) (fun i _ e => by cases e) |>.below (Nat.le_refl _)
end Go.Proofs.YtgdnpmpnkbnjaaaGreatDoor
namespace Go.Proofs.YtgdnpmpnkbnjaaaGreatDoor
open Go.RowKit

theorem listM0 : listM 0 = [] := by decide
theorem listM1 : listM 1 = [0] := by decide
section
variable {M rk : Nat → Nat → Nat}
theorem small_held (hM : Meet M rk) {st : List (Option Nat)} (h : Held M smallC st) (T : Nat → Nat) (hT : Sol M smallC T) (e0 : T 0 = 0) (e1 : T 1 = 1) (e2 : T 2 = 1) (h3 : T 3 = 0 ∨ T 3 = 1) : st.map lstO = [[], [0], [0], listM (T 3), []] := by
  have o0 : onN smallC 0 = [1] := by decide
  have o1 : onN smallC 1 = [2, 3] := by decide
  have o2 : onN smallC 2 = [3] := by decide
  have hl : st.length = 5 := h.len
  obtain ⟨U0, s0, z0⟩ := h.zero
  have u0 : U0 = 0 := by
    have := hM.anti z0 (by have := h.sol T hT 0 U0 s0; rw [e0] at this; exact this)
    exact this
  obtain ⟨U1, s1, z1⟩ := h.fix 0 U0 ⟨15, 0, 0, 0, 0⟩ 1 s0 rfl (by rw [o0]; simp)
  have u1 : U1 = 1 := by
    have h1 := h.sol T hT 1 U1 s1
    rw [e1] at h1
    rw [u0] at z1
    exact hM.anti z1 h1
  obtain ⟨U2, s2, z2⟩ := h.fix 1 U1 ⟨9, 0, 0, 0, 3⟩ 2 s1 rfl (by rw [o1]; simp)
  have u2 : U2 = 1 := by
    have h1 := h.sol T hT 2 U2 s2
    rw [e2] at h1
    rw [u1] at z2
    exact hM.anti z2 h1
  obtain ⟨U3, s3, z3⟩ := h.fix 1 U1 ⟨9, 0, 0, 0, 3⟩ 3 s1 rfl (by rw [o1]; simp)
  obtain ⟨U3', s3', z3'⟩ := h.fix 2 U2 ⟨16, 0, 0, 0, 0⟩ 3 s2 rfl (by rw [o2]; simp)
  rw [s3] at s3'
  obtain rfl := Option.some.inj (Option.some.inj s3')
  have u3 : U3 = T 3 := by
    have h1 := h.sol T hT 3 U3 s3
    rw [u1] at z3
    rw [u2] at z3'
    rcases h3 with h3 | h3
    · rw [h3] at h1 ⊢
      exact hM.anti z3' h1
    · rw [h3] at h1 ⊢
      exact hM.anti z3 h1
  have s4 : st[4]? = some none := by
    obtain ⟨o, ho⟩ := get_some (l := st) (k := 4) (by omega)
    rcases o with _ | U
    · exact ho
    · have := (small_come 4).1 (h.come 4 U ho)
      omega
  have hst : st = [some 0, some 1, some 1, some (T 3), none] := by
    apply List.ext_getElem?
    intro i
    rcases Nat.lt_or_ge i 5 with hi | hi
    · have : i = 0 ∨ i = 1 ∨ i = 2 ∨ i = 3 ∨ i = 4 := by omega
      rcases this with rfl | rfl | rfl | rfl | rfl
      · rw [s0, u0]; rfl
      · rw [s1, u1]; rfl
      · rw [s2, u2]; rfl
      · rw [s3, u3]; rfl
      · rw [s4]; rfl
    · rw [List.getElem?_eq_none (by omega), List.getElem?_eq_none (by simp; omega)]
  rw [hst]
  simp [lstO, listM0, listM1]
end
def solT (v : Nat) : Nat → Nat
  | 0 => 0
  | 1 => 1
  | 2 => 1
  | 3 => v
  | _ => 0
theorem small_sol {M : Nat → Nat → Nat} {v : Nat} (h0 : leM M 0 0) (h1 : leM M 1 1) (h3 : leM M v 1) (h4 : leM M v 0) : Sol M smallC (solT v) := by
  have o0 : onN smallC 0 = [1] := by decide
  have o1 : onN smallC 1 = [2, 3] := by decide
  have o2 : onN smallC 2 = [3] := by decide
  have o3 : onN smallC 3 = [] := by decide
  refine ⟨h0, fun i x k hc hx hk => ?_⟩
  rcases (small_come i).1 hc with rfl | rfl | rfl | rfl
  · obtain rfl : (⟨15, 0, 0, 0, 0⟩ : Ins) = x := Option.some.inj hx
    rw [o0] at hk
    rw [List.mem_singleton.1 hk]
    show leM M 1 (trN ⟨15, 0, 0, 0, 0⟩ 0)
    rw [show trN ⟨15, 0, 0, 0, 0⟩ 0 = 1 by decide]
    exact h1
  · obtain rfl : (⟨9, 0, 0, 0, 3⟩ : Ins) = x := Option.some.inj hx
    rw [o1] at hk
    simp at hk
    rcases hk with rfl | rfl
    · exact h1
    · exact h3
  · obtain rfl : (⟨16, 0, 0, 0, 0⟩ : Ins) = x := Option.some.inj hx
    rw [o2] at hk
    rw [List.mem_singleton.1 hk]
    show leM M v (trN ⟨16, 0, 0, 0, 0⟩ 1)
    rw [show trN ⟨16, 0, 0, 0, 0⟩ 1 = 0 by decide]
    exact h4
  · rw [o3] at hk
    cases hk
theorem small_surely {st : List (Option Nat)} (h : Held (· &&& ·) smallC st) : st.map lstO = [[], [0], [0], [], []] := by
  have := small_held meet_and h (solT 0) (small_sol rfl rfl rfl rfl) rfl rfl rfl (.inl rfl)
  rw [this]
  simp [solT, listM0]
theorem small_perhaps {st : List (Option Nat)} (h : Held (· ||| ·) smallC st) : st.map lstO = [[], [0], [0], [0], []] := by
  have := small_held meet_or h (solT 1) (small_sol rfl rfl rfl rfl) rfl rfl rfl (.inr rfl)
  rw [this]
  simp [solT, listM1]
end Go.Proofs.YtgdnpmpnkbnjaaaGreatDoor
namespace Go.Proofs.YtgdnpmpnkbnjaaaGreatDoor
open Go.RowKit

def hasB (l : List Nat) (x : Int) : Bool := l.any fun k => decide ((k : Int) = x)
theorem hasB_take {l : List Nat} {x : Int} {k y : Nat} (hy : l[k]? = some y) (hne : (y : Int) ≠ x) (h : hasB (l.take k) x = false) : hasB (l.take (k + 1)) x = false := by
  unfold hasB at *
  rw [List.take_add_one, hy, Option.toList_some, List.any_append, h]
  simp [hne]
theorem hasB_hit {l : List Nat} {x : Int} {k y : Nat} (hy : l[k]? = some y) (he : (y : Int) = x) : hasB l x = true :=
  List.any_eq_true.2 ⟨y, List.mem_of_getElem? hy, by simp [he]⟩
theorem RdL.nat {w : World} {B : Nat} {A : Option Addr} {l : List Nat} (h : RdL encM 1 w B A l) {k : Nat} {x : Nat} (hk : l[k]? = some x) :
    ∃ g off, A = some ⟨g, off, none⟩ ∧ g < B ∧ w.cell? ⟨g, off + k, none⟩ = some (.int .i64 (x : Int)) := by
  obtain ⟨g, off, e, hg, hc⟩ := h.at_ hk
  exact ⟨g, off, e, hg, by simpa using hc 0 _ rfl⟩
set_option maxRecDepth 100000 in
set_option maxHeartbeats 1000000 in
theorem has_any (l : List Nat) (x : Int) (A : Option Addr) (c : Nat) (w : World) (h : RdL encM 1 w w.heap.size A l) (hl : l.length ≤ 4611686018427387904) :
    Calls Tryz.prog 8 #[.slice A l.length c, .int .i64 x] w fun e w' => e = .returned (.bool (hasB l x)) ∧ w = w' := by
  have HH := Lib.hid h; clear h
  go_enter Tryz.func8, Tryz.ntmps8
  go_wp2_with fail
  go_loop [5] (fun iv => ∃ k : Nat, iv = .int .i64 k ∧ k ≤ l.length ∧ hasB (l.take k) x = false) (fun iv => l.length - (intOf iv).toNat)
  case atStart => exact ⟨0, rfl, by omega, by simp [hasB]⟩
  case round =>
    obtain ⟨k, rfl, hk, hno⟩ := hrel
    have HNO := Lib.hid hno
    clear hno
    by_cases hlt : k < l.length
    · obtain ⟨y, hy⟩ := get_some hlt
      obtain ⟨g, off, rfl, hg, hc⟩ := HH.out.nat hy
      have HY := Lib.hid hy
      clear hy
      have hk2 : (k : Int) < (l.length : Int) := by omega
      by_cases he : (y : Int) = x
      · have hd : ((y : Int) == x) = true := by simp [he]
        have HEQ := Lib.hid he
        clear he
        go_wp2_with fail
        go_ret
        exact ⟨ret_bool (hasB_hit HY.out HEQ.out).symm, rfl⟩
      · have hd : ((y : Int) == x) = false := by simp [he]
        have HEQ := Lib.hid he
        clear he
        go_wp2_with fail
        go_round
        case rel => exact ⟨k + 1, by go_num, by omega, hasB_take HY.out HEQ.out HNO.out⟩
        case measure => simp [intOf]; omega
    · obtain rfl : k = l.length := by omega
      have hd : decide ((l.length : Int) < (l.length : Int)) = false := by simp
      go_wp2_with fail
      go_ret
      refine ⟨ret_bool ?_, rfl⟩
      have := HNO.out
      rw [List.take_of_length_le (Nat.le_refl _)] at this
      exact this.symm
set_option maxRecDepth 100000 in
set_option maxHeartbeats 1000000 in
theorem sameInts_any (l : List Nat) (A1 A2 : Option Addr) (c1 c2 : Nat) (w : World) (h1 : RdL encM 1 w w.heap.size A1 l) (h2 : RdL encM 1 w w.heap.size A2 l) (hl : l.length ≤ 4611686018427387904) :
    Calls Tryz.prog 21 #[.slice A1 l.length c1, .slice A2 l.length c2] w fun e w' => e = .returned (.bool true) ∧ ∃ n, w' = w.drewN n := by
  have H1 := Lib.hid h1; clear h1
  have H2 := Lib.hid h2; clear h2
  have hd0 : ((l.length : Int) != (l.length : Int)) = false := by simp
  go_enter Tryz.func21, Tryz.ntmps21
  go_wp2_with fail
  go_loopw [5] (fun iv wr => ∃ k n : Nat, iv = .int .i64 k ∧ k ≤ l.length ∧ wr = w.drewN n) (fun iv _ => l.length - (intOf iv).toNat)
  case atStart => exact ⟨0, 0, rfl, by omega, rfl⟩
  case round =>
    obtain ⟨k, n, rfl, hk, hw⟩ := hrel
    have HW := Lib.hid hw
    by_cases hlt : k < l.length
    · obtain ⟨y, hy⟩ := get_some hlt
      obtain ⟨g1, o1, rfl, hg1, hc1⟩ := H1.out.nat hy
      obtain ⟨g2, o2, rfl, hg2, hc2⟩ := H2.out.nat hy
      have e1 : wr.cell? ⟨g1, o1 + k, none⟩ = some (.int .i64 (y : Int)) := by rw [hw]; exact hc1
      have e2 : wr.cell? ⟨g2, o2 + k, none⟩ = some (.int .i64 (y : Int)) := by rw [hw]; exact hc2
      have hs : wr.heap.size = w.heap.size := by rw [hw]; rfl
      have hg1 : g1 < wr.heap.size := by rw [hs]; exact hg1
      have hg2 : g2 < wr.heap.size := by rw [hs]; exact hg2
      clear hy hc1 hc2 hw hs
      have hk2 : (k : Int) < (l.length : Int) := by omega
      have hd : ((y : Int) != (y : Int)) = false := by simp
      go_wp2_with fail
      go_quiet (fail)
      go_wp2_with fail
      go_roundw
      case rel => exact ⟨k + 1, _, by go_num, by omega, by rw [HW.out, World.drewN_drewN]⟩
      case measure => simp [intOf]; omega
    · obtain rfl : k = l.length := by omega
      have hd : decide ((l.length : Int) < (l.length : Int)) = false := by simp
      clear hw
      go_wp2_with fail
      go_ret
      exact ⟨rfl, n, HW.out⟩
theorem LL.drewN {w : World} {B : Nat} {A : Option Addr} {ls : List (List Nat)} (h : LL w B A ls) (n : Nat) : LL (w.drewN n) B A ls := h
set_option maxRecDepth 100000 in
set_option maxHeartbeats 2000000 in
theorem sameLists_any (ls : List (List Nat)) (A1 A2 : Option Addr) (c1 c2 : Nat) (w : World) (h1 : LL w w.heap.size A1 ls) (h2 : LL w w.heap.size A2 ls) (hl : ls.length ≤ 4611686018427387904) (hll : ∀ l ∈ ls, l.length ≤ 4611686018427387904) :
    Calls Tryz.prog 22 #[.slice A1 ls.length c1, .slice A2 ls.length c2] w fun e w' => e = .returned (.bool true) ∧ ∃ n, w' = w.drewN n := by
  have H1 := Lib.hid h1; clear h1
  have H2 := Lib.hid h2; clear h2
  have HL := Lib.hid hll; clear hll
  have hd0 : ((ls.length : Int) != (ls.length : Int)) = false := by simp
  go_enter Tryz.func22, Tryz.ntmps22
  go_wp2_with fail
  go_loopw [5] (fun iv wr => ∃ k n : Nat, iv = .int .i64 k ∧ k ≤ ls.length ∧ wr = w.drewN n) (fun iv _ => ls.length - (intOf iv).toNat)
  case atStart => exact ⟨0, 0, rfl, by omega, rfl⟩
  case round =>
    obtain ⟨k, n, rfl, hk, hw⟩ := hrel
    have HW := Lib.hid hw
    by_cases hlt : k < ls.length
    · obtain ⟨l, hy⟩ := get_some hlt
      obtain ⟨g1, rfl, hg1, a1, k1, hc1, hr1⟩ := H1.out k l hy
      obtain ⟨g2, rfl, hg2, a2, k2, hc2, hr2⟩ := H2.out k l hy
      have e1 : wr.cell? ⟨g1, k, none⟩ = some (.slice a1 l.length k1) := by rw [hw]; exact hc1
      have e2 : wr.cell? ⟨g2, k, none⟩ = some (.slice a2 l.length k2) := by rw [hw]; exact hc2
      have hs : wr.heap.size = w.heap.size := by rw [hw]; rfl
      have R1 : Hid (RdL encM 1 wr wr.heap.size a1 l) := Lib.hid (by rw [hw]; exact hr1)
      have R2 : Hid (RdL encM 1 wr wr.heap.size a2 l) := Lib.hid (by rw [hw]; exact hr2)
      have hg1 : g1 < wr.heap.size := by rw [hs]; exact hg1
      have hg2 : g2 < wr.heap.size := by rw [hs]; exact hg2
      have hlx := HL.out l (List.mem_of_getElem? hy)
      clear hy hc1 hc2 hw hs hr1 hr2
      have hk2' : (k : Int) < (ls.length : Int) := by omega
      go_wp2_with fail
      go_quiet ((go_at_call 21; exact Calls.quiet_of (sameInts_any l a1 a2 k1 k2 _ R1.out R2.out hlx)))
      go_wp2_with fail
      go_roundw
      case rel => exact ⟨k + 1, _, by go_num, by omega, by rw [HW.out, World.drewN_drewN]⟩
      case measure => simp [intOf]; omega
    · obtain rfl : k = ls.length := by omega
      have hd : decide ((ls.length : Int) < (ls.length : Int)) = false := by simp
      clear hw
      go_wp2_with fail
      go_ret
      exact ⟨rfl, n, HW.out⟩
def encBo (x : Bool) : List Value := [.bool x]
theorem RdL.boo {w : World} {B : Nat} {A : Option Addr} {l : List Bool} (h : RdL encBo 1 w B A l) {k : Nat} {x : Bool} (hk : l[k]? = some x) :
    ∃ g off, A = some ⟨g, off, none⟩ ∧ g < B ∧ w.cell? ⟨g, off + k, none⟩ = some (.bool x) := by
  obtain ⟨g, off, e, hg, hc⟩ := h.at_ hk
  exact ⟨g, off, e, hg, by simpa using hc 0 _ rfl⟩
set_option maxRecDepth 100000 in
set_option maxHeartbeats 2000000 in
theorem fits_any (hs : List Bool) (s q : List Nat) (A0 A1 A2 : Option Addr) (c0 c1 c2 : Nat) (w : World) (h0 : RdL encBo 1 w w.heap.size A0 hs) (h1 : RdL encM 1 w w.heap.size A1 s) (h2 : RdL encM 1 w w.heap.size A2 q)
    (hl0 : hs.length ≤ 4611686018427387904) (hl1 : s.length ≤ 4611686018427387904) (hl2 : q.length ≤ 4611686018427387904) (hsu : ∀ k ∈ s, hs[k]? = some true) (hpe : ∀ n : Nat, hs[n]? = some true → hasB q (n : Int) = true) :
    Calls Tryz.prog 10 #[.slice A0 hs.length c0, .slice A1 s.length c1, .slice A2 q.length c2] w fun e w' => e = .returned (.bool true) ∧ w = w' := by
  have H0 := Lib.hid h0; clear h0
  have H1 := Lib.hid h1; clear h1
  have H2 := Lib.hid h2; clear h2
  have HSU := Lib.hid hsu; clear hsu
  have HPE := Lib.hid hpe; clear hpe
  go_enter Tryz.func10, Tryz.ntmps10
  go_wp2_with fail
  go_loop [7] (fun iv => ∃ k : Nat, iv = .int .i64 k ∧ k ≤ s.length) (fun iv => s.length - (intOf iv).toNat)
  case atStart => exact ⟨0, rfl, by omega⟩
  case round =>
    obtain ⟨k, rfl, hk⟩ := hrel
    by_cases hlt : k < s.length
    · obtain ⟨y, hy⟩ := get_some hlt
      obtain ⟨g, off, rfl, hg, hc⟩ := H1.out.nat hy
      have hyt := HSU.out y (get_mem' hy)
      have hyl := (List.getElem?_eq_some_iff.1 hyt).1
      obtain ⟨g0, o0, rfl, hg0, hc0⟩ := H0.out.boo hyt
      clear hy hyt
      have hk2 : (k : Int) < (s.length : Int) := by omega
      have d1 : decide ((y : Int) < 0) = false := by simp
      have d2 : decide ((hs.length : Int) ≤ (y : Int)) = false := by simp; omega
      have d3 : decide (hs.length ≤ y) = false := by simp; omega
      have d4 : (y : Int) < (hs.length : Int) := by omega
      go_wp2_with fail
      go_round
      case rel => exact ⟨k + 1, by go_num, by omega⟩
      case measure => simp [intOf]; omega
    · obtain rfl : k = s.length := by omega
      have hd : decide ((s.length : Int) < (s.length : Int)) = false := by simp
      go_wp2_with fail
      go_loop [8] (fun iv => ∃ k : Nat, iv = .int .i64 k ∧ k ≤ hs.length) (fun iv => hs.length - (intOf iv).toNat)
      case atStart => exact ⟨0, rfl, by omega⟩
      case round =>
        obtain ⟨k, rfl, hk⟩ := hrel
        by_cases hlt : k < hs.length
        · obtain ⟨y, hy⟩ := get_some hlt
          obtain ⟨g0, o0, rfl, hg0, hc0⟩ := H0.out.boo hy
          have hk2 : (k : Int) < (hs.length : Int) := by omega
          rcases y with _ | _
          · clear hy
            go_wp2_with fail
            go_round
            case rel => exact ⟨k + 1, by go_num, by omega⟩
            case measure => simp [intOf]; omega
          · have HQ := Lib.hid (HPE.out k hy)
            clear hy
            go_wp2_with (go_at_call 8; refine (has_any q k A2 c2 w H2.out hl2).mono ?_; rintro e w' ⟨rfl, rfl⟩; rw [HQ.out])
            go_round
            case rel => exact ⟨k + 1, by go_num, by omega⟩
            case measure => simp [intOf]; omega
        · obtain rfl : k = hs.length := by omega
          have hd2 : decide ((hs.length : Int) < (hs.length : Int)) = false := by simp
          go_wp2_with fail
          go_ret
          exact ⟨rfl, rfl⟩
end Go.Proofs.YtgdnpmpnkbnjaaaGreatDoor
namespace Go.Proofs.YtgdnpmpnkbnjaaaGreatDoor
open Go.RowKit

def IndexIs (l : List Nat) (x : Int) (w : World) (e : Ending) (w' : World) : Prop := ∃ r : Int, e = .returned (.int .i64 r) ∧ decide (0 ≤ r) = hasB l x ∧ w = w'
set_option maxRecDepth 100000 in
set_option maxHeartbeats 1000000 in
theorem index_any (l : List Nat) (x : Int) (A : Option Addr) (c : Nat) (w : World) (h : RdL encM 1 w w.heap.size A l) (hl : l.length ≤ 4611686018427387904) :
    Calls Tryz.prog 35 #[.slice A l.length c, .int .i64 x] w (IndexIs l x w) := by
  have HH := Lib.hid h; clear h
  go_enter Tryz.func35, Tryz.ntmps35
  go_wp2_with fail
  go_loop [8] (fun iv => ∃ k : Nat, iv = .int .i64 k ∧ k ≤ l.length ∧ hasB (l.take k) x = false) (fun iv => l.length - (intOf iv).toNat)
  case atStart => exact ⟨0, rfl, by omega, by simp [hasB]⟩
  case round =>
    obtain ⟨k, rfl, hk, hno⟩ := hrel
    have HNO := Lib.hid hno
    clear hno
    by_cases hlt : k < l.length
    · obtain ⟨y, hy⟩ := get_some hlt
      obtain ⟨g, off, rfl, hg, hc⟩ := HH.out.nat hy
      have HY := Lib.hid hy
      clear hy
      have hk2 : (k : Int) < (l.length : Int) := by omega
      by_cases he : x = (y : Int)
      · have hd : (x == (y : Int)) = true := by simp [he]
        have HEQ := Lib.hid he
        clear he
        go_wp2_with fail
        go_ret
        exact ⟨k, rfl, by rw [hasB_hit HY.out HEQ.out.symm]; simp, rfl⟩
      · have hd : (x == (y : Int)) = false := by simp [he]
        have HEQ := Lib.hid he
        clear he
        go_wp2_with fail
        go_round
        case rel => exact ⟨k + 1, by go_num, by omega, hasB_take HY.out (fun e => HEQ.out e.symm) HNO.out⟩
        case measure => simp [intOf]; omega
    · obtain rfl : k = l.length := by omega
      have hd : decide ((l.length : Int) < (l.length : Int)) = false := by simp
      go_wp2_with fail
      go_ret
      have := HNO.out
      rw [List.take_of_length_le (Nat.le_refl _)] at this
      exact ⟨-1, rfl, by rw [this]; decide, rfl⟩
set_option maxRecDepth 100000 in
set_option maxHeartbeats 1000000 in
theorem contains_any (l : List Nat) (x : Int) (A : Option Addr) (c : Nat) (w : World) (h : RdL encM 1 w w.heap.size A l) (hl : l.length ≤ 4611686018427387904) :
    Calls Tryz.prog 16 #[.slice A l.length c, .int .i64 x] w fun e w' => e = .returned (.bool (hasB l x)) ∧ w = w' := by
  have HH := Lib.hid h; clear h
  go_enter Tryz.func16, Tryz.ntmps16
  go_wp2_with (go_at_call 35; refine (index_any l x A c w HH.out hl).mono ?_; rintro e w' ⟨r, rfl, hr, rfl⟩; have HRR := Lib.hid hr; clear hr)
  go_ret
  exact ⟨ret_bool HRR.out, rfl⟩
end Go.Proofs.YtgdnpmpnkbnjaaaGreatDoor
