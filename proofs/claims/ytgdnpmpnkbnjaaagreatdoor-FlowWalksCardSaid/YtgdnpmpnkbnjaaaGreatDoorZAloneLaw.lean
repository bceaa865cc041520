/- The plain law of FlowAlone: a variable is told just if one thread at most touches it, or none writes it. No condition. -/
import Derived.Test.YtgdnpmpnkbnjaaaGreatDoorZAlone
import Derived.Test.YtgdnpmpnkbnjaaaGreatDoorZKnown
namespace Go.Proofs.YtgdnpmpnkbnjaaaGreatDoor
open Go.RowKit

noncomputable def useT (p : Prg) (t v : Nat) : Bool := hasB (touchesL p (t : Int) 0) v || hasB (touchesL p (t : Int) 1) v
noncomputable def wrT (p : Prg) (t v : Nat) : Bool := hasB (touchesL p (t : Int) 1) v
noncomputable def cusN (p : Prg) (k v : Nat) : Nat := ((List.range k).filter fun t => useT p t v).length
noncomputable def cwrN (p : Prg) (k v : Nat) : Nat := ((List.range k).filter fun t => wrT p t v).length
theorem cusN_succ (p : Prg) (k v : Nat) : cusN p (k + 1) v = cusN p k v + if useT p k v then 1 else 0 := by
  unfold cusN
  rw [List.range_succ]
  exact cnt_snoc _ k
theorem cwrN_succ (p : Prg) (k v : Nat) : cwrN p (k + 1) v = cwrN p k v + if wrT p k v then 1 else 0 := by
  unfold cwrN
  rw [List.range_succ]
  exact cnt_snoc _ k
theorem cusN_le (p : Prg) (k v : Nat) : cusN p k v ≤ k := Nat.le_trans (List.length_filter_le _ _) (by simp)
theorem cwrN_le (p : Prg) (k v : Nat) : cwrN p k v ≤ k := Nat.le_trans (List.length_filter_le _ _) (by simp)
theorem hasB_nil (x : Int) : hasB [] x = false := rfl
theorem touches_link {p : Prg} (hc : p.check.e = 0) {t : Nat} (ht : t < p.threads.length) (k v : Nat) : hasB (touchesL p (t : Int) k) v = (p.startM.testBit t && hasB (touchL (p.codeAt (t : Int)) k) v) := by
  unfold touchesL
  rw [Int.toNat_natCast]
  by_cases hb : p.startM.testBit t = true
  · rw [if_pos ⟨asked_of hc ht, hb⟩, hb, Bool.true_and]
  · rw [if_neg (fun h => hb h.2)]
    have : p.startM.testBit t = false := by simpa using hb
    rw [this, hasB_nil, Bool.false_and]
theorem start_range {p : Prg} (hc : p.check.e = 0) : listM p.startM = (List.range p.threads.length).filter fun t => p.startM.testBit t :=
  listM_bound _ _ fun k hk => nxtT_clo (good_of hc) ((startM_bit (good_of hc) k).1 hk)
theorem cusN_link {p : Prg} (hc : p.check.e = 0) (v : Nat) : cusN p p.threads.length v = cntU p (listM p.startM) v := by
  unfold cusN cntU
  rw [start_range hc, List.filter_filter]
  congr 1
  apply List.filter_congr
  intro t ht
  unfold useT useB
  rw [touches_link hc (List.mem_range.1 ht), touches_link hc (List.mem_range.1 ht)]
  cases p.startM.testBit t <;> simp
theorem cwrN_link {p : Prg} (hc : p.check.e = 0) (v : Nat) : cwrN p p.threads.length v = cntW p (listM p.startM) v := by
  unfold cwrN cntW
  rw [start_range hc, List.filter_filter]
  congr 1
  apply List.filter_congr
  intro t ht
  unfold wrT wrB
  rw [touches_link hc (List.mem_range.1 ht)]
  cases p.startM.testBit t <;> simp
theorem alone_has {p : Prg} (ha : askedN p 0 = 0) {v : Nat} (hv : v < p.vars.length) : hasB (aloneL p) (v : Int) = aloneB p v := by
  unfold aloneL
  rw [if_pos ha]
  rcases hb : aloneB p v with _ | _
  · unfold hasB
    rw [List.any_eq_false]
    intro k hk
    have := (List.mem_filter.1 hk).2
    intro h
    have e : (k : Int) = (v : Int) := of_decide_eq_true h
    have e2 : k = v := by omega
    rw [e2, hb] at this
    cases this
  · unfold hasB
    rw [List.any_eq_true]
    exact ⟨v, List.mem_filter.2 ⟨List.mem_range.2 hv, hb⟩, by simp⟩
def lastOf (l : List Nat) (i : Nat) : Int := if i = 0 then -1 else ((l.getD (i - 1) 0 : Nat) : Int)
theorem lastOf_succ {l : List Nat} {i y : Nat} (hy : l[i]? = some y) : lastOf l (i + 1) = (y : Int) := by
  unfold lastOf
  rw [if_neg (by omega), Nat.add_sub_cancel, List.getD_eq_getElem?_getD, hy]
  rfl
theorem lastOf_lt {l : List Nat} (hp : l.Pairwise (· < ·)) {i y : Nat} (hy : l[i]? = some y) : lastOf l i < (y : Int) := by
  unfold lastOf
  split
  · omega
  · have hlt := (List.getElem?_eq_some_iff.1 hy).1
    obtain ⟨z, hz⟩ := get_some (l := l) (k := i - 1) (by omega)
    rw [List.getD_eq_getElem?_getD, hz]
    have := List.pairwise_iff_getElem.1 hp (i - 1) i (by omega) hlt (by omega)
    rw [(List.getElem?_eq_some_iff.1 hy).2, (List.getElem?_eq_some_iff.1 hz).2] at this
    simpa using this
theorem alone_sorted (p : Prg) : (aloneL p).Pairwise (· < ·) := by
  unfold aloneL
  split
  · exact List.Pairwise.filter _ List.pairwise_lt_range
  · exact List.Pairwise.nil
theorem alone_lt {p : Prg} {i y : Nat} (hy : (aloneL p)[i]? = some y) : y < p.vars.length := by
  have hm := List.mem_of_getElem? hy
  unfold aloneL at hm
  split at hm
  · exact List.mem_range.1 (List.mem_filter.1 hm).1
  · cases hm
theorem alone_len (p : Prg) : (aloneL p).length ≤ p.vars.length := by
  unfold aloneL
  split
  · exact Nat.le_trans (List.length_filter_le _ _) (by simp)
  · simp
theorem touchesL_len {p : Prg} {t : Nat} (hc : p.check.e = 0) (ht : t < p.threads.length) {k : Nat} (hk : k < 9) : (touchesL p (t : Int) k).length ≤ 4611686018427387904 := by
  unfold touchesL
  split
  · obtain ⟨th, hth⟩ := get_some ht
    rw [codeAt_get hth]
    exact touchL_len _ ((good_of hc).code th (get_mem hth)) (good_small hc (get_mem hth)) k hk
  · simp
end Go.Proofs.YtgdnpmpnkbnjaaaGreatDoor
