/- Plain words for abreastlaw13.FlowWalks: what holds where a walk stands, and that each step bears it on. No condition. -/
import Derived.Test.YtgdnpmpnkbnjaaaGreatDoorZAloneLaw
import Derived.Test.YtgdnpmpnkbnjaaaGreatDoorZToldD
import Derived.Test.YtgdnpmpnkbnjaaaGreatDoorZEdges
namespace Go.Proofs.YtgdnpmpnkbnjaaaGreatDoor
open Go.RowKit

theorem hasB_bit (S n : Nat) : hasB (listM S) (n : Int) = S.testBit n := by
  rcases hb : S.testBit n with _ | _
  · unfold hasB
    rw [List.any_eq_false]
    intro k hk h
    have e : (k : Int) = (n : Int) := of_decide_eq_true h
    have e2 : k = n := by omega
    rw [listM_mem, e2, hb] at hk
    cases hk
  · unfold hasB
    rw [List.any_eq_true]
    exact ⟨n, (listM_mem S n).2 hb, by simp⟩
/-- where the walk stands: at the instruction a, with the locks h held, of which hs is the list -/
structure WInv (code : List Ins) (s1 s2 : List (Option Nat)) (a : Nat) (hs : List Bool) (h : Nat) : Prop where
  come : Come code a
  lo : ∃ U, s1[a]? = some (some U) ∧ leM (· &&& ·) U h
  hi : ∃ V, s2[a]? = some (some V) ∧ leM (· ||| ·) V h
  bits : ∀ n : Nat, h.testBit n = hs[n]?.getD false
section
variable {code : List Ins} {s1 s2 : List (Option Nat)} {a h : Nat} {hs : List Bool}
theorem WInv.first (h1 : Held (· &&& ·) code s1) (h2 : Held (· ||| ·) code s2) (n : Nat) : WInv code s1 s2 0 (List.replicate n false) 0 := by
  refine ⟨.zero, h1.zero, h2.zero, fun k => ?_⟩
  rw [Nat.zero_testBit, List.getElem?_replicate]
  split <;> rfl
theorem WInv.surely (w : WInv code s1 s2 a hs h) : ∃ U, (s1.map lstO)[a]? = some (listM U) ∧ ∀ k ∈ listM U, hs[k]? = some true := by
  obtain ⟨U, h1, h2⟩ := w.lo
  refine ⟨U, by rw [List.getElem?_map, h1]; rfl, fun k hk => ?_⟩
  rw [listM_mem] at hk
  have h3 : (U &&& h).testBit k = U.testBit k := congrArg (fun x => Nat.testBit x k) h2
  rw [Nat.testBit_and, hk, Bool.true_and, w.bits k] at h3
  rcases e : hs[k]? with _ | b
  · rw [e] at h3; cases h3
  · rw [e] at h3
    exact congrArg some h3
theorem WInv.perhaps (w : WInv code s1 s2 a hs h) : ∃ V, (s2.map lstO)[a]? = some (listM V) ∧ ∀ n : Nat, hs[n]? = some true → hasB (listM V) (n : Int) = true := by
  obtain ⟨V, h1, h2⟩ := w.hi
  refine ⟨V, by rw [List.getElem?_map, h1]; rfl, fun n hn => ?_⟩
  rw [hasB_bit]
  have h3 : (V ||| h).testBit n = V.testBit n := congrArg (fun x => Nat.testBit x n) h2
  rw [Nat.testBit_or, w.bits n, hn] at h3
  rw [← h3]
  simp
theorem WInv.step {x : Ins} {k : Nat} {hs' : List Bool} (h1 : Held (· &&& ·) code s1) (h2 : Held (· ||| ·) code s2) (w : WInv code s1 s2 a hs h) (hx : code[a]? = some x) (hk : k ∈ onN code a) (hb : ∀ n : Nat, (trN x h).testBit n = hs'[n]?.getD false) : WInv code s1 s2 k hs' (trN x h) := by
  refine ⟨.step w.come hk, ?_, ?_, hb⟩
  · obtain ⟨U, e1, e2⟩ := w.lo
    obtain ⟨U', f1, f2⟩ := h1.fix a U x k e1 hx hk
    exact ⟨U', f1, meet_and.trans f2 (meet_and.tr x e2)⟩
  · obtain ⟨V, e1, e2⟩ := w.hi
    obtain ⟨V', f1, f2⟩ := h2.fix a V x k e1 hx hk
    exact ⟨V', f1, meet_or.trans f2 (meet_or.tr x e2)⟩
theorem WInv.same {x : Ins} (w : WInv code s1 s2 a hs h) (h15 : x.op ≠ 15) (h16 : x.op ≠ 16) : ∀ n : Nat, (trN x h).testBit n = hs[n]?.getD false := fun n => by
  rw [tr_bit, if_neg h15, if_neg h16]
  exact w.bits n
theorem WInv.lock {x : Ins} {m : Nat} (w : WInv code s1 s2 a hs h) (h15 : x.op = 15) (hm : x.n = (m : Int)) (hl : m < hs.length) : ∀ n : Nat, (trN x h).testBit n = (hs.set m true)[n]?.getD false := fun n => by
  rw [tr_bit, if_pos h15, w.bits n, hm, Int.toNat_natCast]
  by_cases e : m = n
  · subst e
    rw [List.getElem?_set_self hl]
    simp
  · rw [List.getElem?_set_ne e]
    simp [e]
theorem WInv.unlock {x : Ins} {m : Nat} (w : WInv code s1 s2 a hs h) (h16 : x.op = 16) (hm : x.n = (m : Int)) (hl : m < hs.length) : ∀ n : Nat, (trN x h).testBit n = (hs.set m false)[n]?.getD false := fun n => by
  rw [tr_bit, if_neg (by rw [h16]; decide), if_pos h16, w.bits n, hm, Int.toNat_natCast]
  by_cases e : m = n
  · subst e
    rw [List.getElem?_set_self hl]
    simp
  · rw [List.getElem?_set_ne e]
    simp [e]
end
/-! how long the lists are -/
theorem listM_short {S N : Nat} (h : ∀ k, S.testBit k = true → k < N) : (listM S).length ≤ N := by
  rw [listM_bound S N h]
  have h2 := List.length_filter_le (fun k => S.testBit k) (List.range N)
  rwa [List.length_range] at h2
theorem bit_lt {S N : Nat} (h : S < 2 ^ N) {k : Nat} (hk : S.testBit k = true) : k < N := by
  rcases Nat.lt_or_ge k N with h1 | h1
  · exact h1
  · rw [Nat.testBit_lt_two_pow (Nat.lt_of_lt_of_le h (Nat.pow_le_pow_right (by omega) h1))] at hk
    cases hk
theorem held_or_lt {code : List Ins} {st : List (Option Nat)} {N i V : Nat} (h : Held (· ||| ·) code st) (hN : ∀ (i : Nat) (x : Ins), code[i]? = some x → x.op = 15 → x.n.toNat < N) (hi : st[i]? = some (some V)) : V < 2 ^ N := by
  have hp : 2 ^ N - 1 < 2 ^ N := by have := Nat.two_pow_pos N; omega
  have hs : Sol (· ||| ·) code (fun _ => 2 ^ N - 1) := by
    refine ⟨Nat.or_zero _, fun j x k _ hx _ => ?_⟩
    have h1 : trN x (2 ^ N - 1) < 2 ^ N := tr_lt hp (hN j x hx)
    show (2 ^ N - 1) ||| trN x (2 ^ N - 1) = 2 ^ N - 1
    apply Nat.eq_of_testBit_eq
    intro n
    rw [Nat.testBit_or, Nat.testBit_two_pow_sub_one]
    rcases hb : (trN x (2 ^ N - 1)).testBit n with _ | _
    · simp
    · have := bit_lt h1 hb
      simp [this]
  have h2 : (2 ^ N - 1) ||| V = 2 ^ N - 1 := h.sol _ hs i V hi
  have h3 : V ≤ (2 ^ N - 1) ||| V := Nat.right_le_or
  omega
theorem WInv.lens {code : List Ins} {s1 s2 : List (Option Nat)} {a h U V N : Nat} {hs : List Bool} (w : WInv code s1 s2 a hs h) (h2 : Held (· ||| ·) code s2) (hN : ∀ (i : Nat) (x : Ins), code[i]? = some x → x.op = 15 → x.n.toNat < N) (hl : hs.length ≤ N) (eU : (s1.map lstO)[a]? = some (listM U)) (eV : (s2.map lstO)[a]? = some (listM V)) : (listM U).length ≤ N ∧ (listM V).length ≤ N := by
  constructor
  · obtain ⟨U', f1, f2⟩ := w.lo
    rw [List.getElem?_map, f1] at eU
    rw [← Option.some.inj eU]
    refine listM_short fun k hk => ?_
    have h3 : (U' &&& h).testBit k = U'.testBit k := congrArg (fun x => Nat.testBit x k) f2
    rw [Nat.testBit_and, hk, Bool.true_and, w.bits k] at h3
    rcases Nat.lt_or_ge k N with h1 | h1
    · exact h1
    · rw [List.getElem?_eq_none (by omega)] at h3
      cases h3
  · obtain ⟨V', f1, _⟩ := w.hi
    rw [List.getElem?_map, f1] at eV
    rw [← Option.some.inj eV]
    exact listM_short fun k hk => bit_lt (held_or_lt h2 hN f1) hk
theorem own_readB {w : World} {base n c : Nat} {A : Option Addr} {l : List Bool} (h : w.ownsRow base 4 1 (.slice A n c) n (l.map Value.bool)) (hn : n = l.length) : RdL encBo 1 w w.heap.size A l := by
  have e : l.map Value.bool = l.flatMap encBo := by
    clear h hn
    induction l with
    | nil => rfl
    | cons a r ih => simp only [List.map_cons, List.flatMap_cons, ih]; rfl
  rw [e] at h
  obtain ⟨A', c', hv, _, hr⟩ := RdL.of_own (enc := encBo) (fun _ => rfl) hn h
  injection hv with hv _ _
  subst hv
  exact hr
/-! the ways on -/
section
variable {code : List Ins} {a : Nat} {x : Ins}
theorem on_jump (hx : code[a]? = some x) (h8 : x.op = 8) : x.n.toNat ∈ onN code a := by
  unfold onN; rw [hx]
  simp [h8]
theorem on_branch (hx : code[a]? = some x) (h9 : x.op = 9) : x.n.toNat ∈ onN code a ∧ a + 1 ∈ onN code a := by
  unfold onN; rw [hx]
  simp only [h9]
  simp
  split
  · simp
  · split
    · next e => simp [e]
    · simp
theorem on_plain (hx : code[a]? = some x) (h8 : x.op ≠ 8) (h9 : x.op ≠ 9) (h20 : x.op ≠ 20) : a + 1 ∈ onN code a := by
  unfold onN; rw [hx]
  simp [h8, h9, h20]
end
/-! threads that are started, what they touch -/
section
variable {p : Prg} {t a : Nat} {x : Ins}
theorem start_has (hc : p.check.e = 0) (k : Nat) : hasB (startL p) (k : Int) = p.startM.testBit k := by
  unfold startL
  rw [if_pos (show askedN p 0 = 0 from asked_of hc (k := 0) (good_of hc).thr1), hasB_bit]
theorem named_has {code : List Ins} (hok : OkCode code) {op : Int} (hx : code[a]? = some x) (hcm : Come code a) (ho : x.op = op) {m : Nat} (hm : x.n = (m : Int)) : hasB (namedL code op) (m : Int) = true := by
  unfold namedL
  rw [hasB_bit, namedM_bit]
  exact ⟨a, x, hx, ho, (comeM_bit hok a).2 hcm, by rw [hm, Int.toNat_natCast]⟩
theorem touch_may (hc : p.check.e = 0) (ht : t < p.threads.length) (hok : OkCode (p.codeAt (t : Int))) (hx : (p.codeAt (t : Int))[a]? = some x) (hcm : Come (p.codeAt (t : Int)) a) {k m : Nat} (ho : x.op = 11 + (k : Int)) (hm : x.n = (m : Int)) : hasB (touchesL p (t : Int) k) x.n = hasB (startL p) (t : Int) := by
  rw [hm, touches_link hc ht, start_has hc]
  unfold touchL
  rw [named_has hok hx hcm ho hm, Bool.and_true]
theorem fork_started {c : Thr} (hc : p.check.e = 0) (ht : p.threads[t]? = some c) (hx : c.code[a]? = some x) (hcm : Come c.code a) (ho : x.op = 17) {m : Nat} (hm : x.n = (m : Int)) (hs : hasB (startL p) (t : Int) = true) : hasB (startL p) (m : Int) = true := by
  rw [start_has hc] at hs ⊢
  have hg := good_of hc
  rw [startM_bit hg] at hs ⊢
  refine .step hs ?_
  rw [nxtT_get ht, listM_mem, namedM_bit]
  exact ⟨a, x, hx, ho, (comeM_bit (hg.code c (List.mem_of_getElem? ht)) a).2 hcm, by rw [hm, Int.toNat_natCast]⟩
end
/-! the search among the edges -/
def hasE (l : List (Nat × Nat)) (a b : Nat) : Bool := l.any fun e => decide (e = (a, b))
theorem hasE_succ {l : List (Nat × Nat)} {k a b : Nat} {e : Nat × Nat} (h : l[k]? = some e) : hasE (l.take (k + 1)) a b = (hasE (l.take k) a b || decide (e = (a, b))) := by
  unfold hasE
  rw [List.take_add_one, h, Option.toList_some, List.any_append]
  simp
theorem hasE_edge {p : Prg} {th : Int} {a b : Nat} (ha : askedN p th = 0) (hi : a < (p.codeAt th).length) (hk : b ∈ onN (p.codeAt th) a) : hasE (edgesL p th) a b = true := by
  unfold edgesL hasE
  rw [if_pos ha]
  exact List.any_eq_true.2 ⟨(a, b), edges_mem hi hk, by simp⟩
end Go.Proofs.YtgdnpmpnkbnjaaaGreatDoor
