/- The plain law of CheckNames: where the scan of the names finds no fault, Find finds what Name names. -/
import Derived.Test.YtknnbckmdfnmaaaDoorFound
import Derived.Test.YtknnbckmdfnmaaaDoorLives
namespace Go.Proofs.YtknnbckmdfnmaaaDoor
open Go.RowKit

/-- a list scanned without fault has no name twice, and none that was seen before -/
theorem scanL_none {part : Nat} : ∀ {l : List ByteArray} {i : Nat} {seen seen' : List (List UInt8)}, scanL part l i seen = (none, seen') →
    (∀ s ∈ l, s.data.toList ∉ seen) ∧ (∀ x, x ∈ seen → x ∈ seen') ∧ (∀ s ∈ l, s.data.toList ∈ seen') ∧ ∀ (a b : Nat) (s t : ByteArray), l[a]? = some s → l[b]? = some t → s.data.toList = t.data.toList → a = b := by
  intro l
  induction l with
  | nil =>
    intro i seen seen' h
    obtain rfl : seen = seen' := (Prod.mk.inj h).2
    exact ⟨by simp, fun x hx => hx, by simp, by simp⟩
  | cons s r ih =>
    intro i seen seen' h
    unfold scanL at h
    split at h
    · exact absurd (Prod.mk.inj h).1 (by simp)
    split at h
    · exact absurd (Prod.mk.inj h).1 (by simp)
    · next hn hs =>
      obtain ⟨h1, h2, h3, h4⟩ := ih h
      refine ⟨fun t ht => ?_, fun x hx => h2 x (List.mem_cons_of_mem _ hx), fun t ht => ?_, fun a b u v hu hv huv => ?_⟩
      · rcases List.mem_cons.1 ht with rfl | ht
        · exact hs
        · exact fun hh => h1 t ht (List.mem_cons_of_mem _ hh)
      · rcases List.mem_cons.1 ht with rfl | ht
        · exact h2 _ (List.mem_cons_self ..)
        · exact h3 t ht
      · cases a with
        | zero =>
          cases b with
          | zero => rfl
          | succ b =>
            obtain rfl : s = u := Option.some.inj hu
            exact absurd (huv ▸ List.mem_cons_self ..) (h1 v (List.mem_of_getElem? hv))
        | succ a =>
          cases b with
          | zero =>
            obtain rfl : s = v := Option.some.inj hv
            exact absurd (huv ▸ List.mem_cons_self ..) (h1 u (List.mem_of_getElem? hu))
          | succ b => rw [h4 a b u v hu hv huv]
/-- where a name stands, findL finds it -/
theorem findL_hit {s : ByteArray} : ∀ {l : List ByteArray} {i k : Nat}, l[k]? = some s → (∀ (a : Nat) (t : ByteArray), l[a]? = some t → t.toList = s.toList → a = k) → findL s l i = some (i + k) := by
  intro l
  induction l with
  | nil => intro i k h; cases h
  | cons x r ih =>
    intro i k h hu
    unfold findL
    cases k with
    | zero =>
      obtain rfl : x = s := Option.some.inj h
      rw [if_pos (by simp)]
      rfl
    | succ k =>
      rw [if_neg (by intro hh; exact absurd (hu 0 x rfl (by simpa using hh)) (by omega)), ih h (fun a t ha ht => by have := hu (a + 1) t ha ht; omega)]
      congr 1
      omega
theorem findL_miss {s : ByteArray} : ∀ {l : List ByteArray} {i : Nat}, (∀ t ∈ l, t.toList ≠ s.toList) → findL s l i = none := by
  intro l
  induction l with
  | nil => intro i h; rfl
  | cons x r ih =>
    intro i h
    unfold findL
    rw [if_neg (by simpa using h x (List.mem_cons_self ..)), ih (fun t ht => h t (List.mem_cons_of_mem _ ht))]
/-- where the scan finds no fault, a name of a list is found there -/
theorem findP_law {N : Nat → List ByteArray} {s : ByteArray} : ∀ {m part : Nat} {seen : List (List UInt8)}, scanP N m part seen = none → (∀ k i, part ≤ k → k < part + m → (N k)[i]? = some s → findP N s m part = some (k, i) ∧ s.data.toList ∉ seen) := by
  intro m
  induction m with
  | zero => intro part seen h k i h1 h2; omega
  | succ m ih =>
    intro part seen h k i h1 h2 hs
    unfold scanP at h
    split at h
    · cases h
    · next seen' heq =>
      obtain ⟨e1, e2, e3, e4⟩ := scanL_none heq
      unfold findP
      by_cases hk : k = part
      · subst hk
        rw [findL_hit (i := 0) hs (fun a t ha ht => e4 a i t s ha hs (by rw [← toList_eq, ← toList_eq, ht]))]
        exact ⟨by simp, e1 s (List.mem_of_getElem? hs)⟩
      · obtain ⟨f1, f2⟩ := ih h k i (by omega) (by omega) hs
        rw [findL_miss (fun t ht hh => f2 (by rw [← toList_eq, ← hh, toList_eq]; exact e3 t ht))]
        exact ⟨f1, fun hh => f2 (e2 _ hh)⟩
end Go.Proofs.YtknnbckmdfnmaaaDoor
