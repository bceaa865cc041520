/- The plain law of CheckStays: what a program that is taken says of each instruction of its threads. No condition. -/
import Derived.Test.YtknnbckmdfnmaaaDoorCheckD
namespace Go.Proofs.YtknnbckmdfnmaaaDoor
open Go.RowKit

theorem scanI_none {code : Int} {cnt : Nat → Nat} : ∀ {l : List Ins} {i : Nat}, scanI code cnt l i = none → ∀ x ∈ l, 1 ≤ x.op ∧ x.op ≤ 20 ∧ fieldB x code cnt = true := by
  intro l
  induction l with
  | nil => intro i h x hx; cases hx
  | cons y r ih =>
    intro i h x hx
    unfold scanI at h
    split at h
    · cases h
    · next ho =>
      split at h
      · next hfb =>
        rcases List.mem_cons.1 hx with rfl | hx
        · exact ⟨by omega, by omega, hfb⟩
        · exact ih h x hx
      · cases h
theorem threadR_zero {t : Thr} {cnt : Nat → Nat} (h : (threadR t cnt).1 = 0) : t.places.length = t.code.length ∧ scanI t.code.length cnt t.code 0 = none ∧ (lastOp t.code = 8 ∨ lastOp t.code = 20) := by
  unfold threadR at h
  split at h
  · exact absurd h (by simp)
  · next hl =>
    split at h
    · exact absurd h (by simp)
    · split at h
      · next r hr =>
        exfalso
        have : ∀ {l : List Ins} {i : Nat} {r : Int × Nat}, scanI t.code.length cnt l i = some r → r.1 ≠ 0 := by
          intro l
          induction l with
          | nil => intro i r h; cases h
          | cons y s ih =>
            intro i r h
            unfold scanI at h
            split at h
            · rw [← Option.some.inj h]; simp
            · split at h
              · exact ih h
              · rw [← Option.some.inj h]; simp
        exact this hr h
      · next hs =>
        split at h
        · next hlast => exact ⟨by omega, hs, hlast⟩
        · exact absurd h (by simp)
theorem scanT_none {cnt : Nat → Nat} : ∀ {l : List Thr} {i sum : Nat}, scanT cnt l i sum = none → ∀ t ∈ l, 1 ≤ t.code.length ∧ t.code.length ≤ 4096 ∧ (threadR t cnt).1 = 0 := by
  intro l
  induction l with
  | nil => intro i sum h t ht; cases ht
  | cons y r ih =>
    intro i sum h t ht
    unfold scanT at h
    split at h
    · cases h
    · next hc =>
      split at h
      · next hz =>
        rcases List.mem_cons.1 ht with rfl | ht
        · exact ⟨by omega, by omega, hz⟩
        · exact ih h t ht
      · cases h
theorem scanT_err {cnt : Nat → Nat} : ∀ {l : List Thr} {i sum : Nat} {e : Int} {a b : Nat}, scanT cnt l i sum = some (e, a, b) → e ≠ 0 := by
  intro l
  induction l with
  | nil => intro i sum e a b h; cases h
  | cons y r ih =>
    intro i sum e a b h
    unfold scanT at h
    split at h
    · rw [← (Prod.mk.inj (Option.some.inj h)).1]; simp
    · split at h
      · exact ih h
      · next hz =>
        rw [← (Prod.mk.inj (Option.some.inj h)).1]
        exact hz
theorem check_good {p : Prg} (h : p.check.e = 0) : p.part0 = 0 ∧ scanP p.names 6 0 [] = none ∧ scanB p.bars 0 = none ∧ scanT p.cnt p.threads 0 0 = none := by
  by_cases h0 : p.part0 = 0
  · refine ⟨h0, ?_⟩
    rcases hs : scanP p.names 6 0 [] with _ | ⟨e, a, i⟩
    · refine ⟨rfl, ?_⟩
      rcases hb : scanB p.bars 0 with _ | i
      · refine ⟨rfl, ?_⟩
        rcases ht : scanT p.cnt p.threads 0 0 with _ | ⟨e, i, a⟩
        · rfl
        · rw [check_thr h0 hs hb ht] at h
          exact absurd h (scanT_err ht)
      · rw [check_bar h0 hs hb] at h
        exact absurd h (by simp)
    · rw [check_scan h0 hs] at h
      have := scanP_err hs
      exfalso
      dsimp only at h
      omega
  · rw [check_cnt h0] at h
    exact absurd h (by simp)
theorem check_zero {p : Prg} (h : p.check.e = 0) : p.check = ⟨0, 0, 0, 0⟩ := by
  obtain ⟨h0, h1, h2, h3⟩ := check_good h
  exact check_ok h0 h1 h2 h3
def regIn (r : Int) : Prop := 0 ≤ r ∧ r ≤ 15
/-- what each instruction of a taken program's thread keeps -/
structure Stay (p : Prg) (t : Thr) (k : Nat) (x : Ins) : Prop where
  op1 : 1 ≤ x.op
  op2 : x.op ≤ 20
  a1 : 0 ≤ x.a
  a2 : x.a ≤ 15
  b1 : 0 ≤ x.b
  b2 : x.b ≤ 15
  c1 : 0 ≤ x.c
  c2 : x.c ≤ 15
  num : listOf x.op ≠ 0 → 0 ≤ x.n ∧ x.n < (p.cnt (listOf x.op) : Int)
  goes : x.op = 8 ∨ x.op = 9 → 0 ≤ x.n ∧ x.n < (t.code.length : Int)
  next_ : x.op ≠ 8 → x.op ≠ 20 → k + 1 < t.code.length
open Classical in
theorem stay_law {p : Prg} (h : p.check.e = 0) {t : Thr} (ht : t ∈ p.threads) {k : Nat} {x : Ins} (hx : t.code[k]? = some x) : Stay p t k x := by
  obtain ⟨_, _, _, h3⟩ := check_good h
  obtain ⟨hc1, hc2, hz⟩ := scanT_none h3 t ht
  obtain ⟨hpl, hs, hlast⟩ := threadR_zero hz
  obtain ⟨ho1, ho2, hfb⟩ := scanI_none hs x (List.mem_of_getElem? hx)
  unfold fieldB at hfb
  obtain ⟨hr, hn⟩ := of_decide_eq_true hfb
  obtain ⟨⟨ra1, ra2, _⟩, ⟨rb1, rb2, _⟩, ⟨rc1, rc2, _⟩⟩ := hr
  refine ⟨ho1, ho2, ra1, ra2, rb1, rb2, rc1, rc2, fun hl => ?_, fun hg => ?_, fun h8 h20 => ?_⟩
  · unfold numOk at hn
    rw [if_neg (by rintro h1; rw [h1] at hl; exact hl (by decide)), if_neg (by rintro (h1 | h1) <;> (rw [h1] at hl; exact hl (by decide))), if_neg hl] at hn
    exact hn
  · unfold numOk at hn
    rw [if_neg (by omega), if_pos hg] at hn
    exact hn
  · have hk : k < t.code.length := (List.getElem?_eq_some_iff.1 hx).1
    rcases Nat.lt_or_ge (k + 1) t.code.length with h1 | h1
    · exact h1
    · exfalso
      have hkk : k = t.code.length - 1 := by omega
      unfold lastOp at hlast
      rw [← hkk, List.getD_eq_getElem?_getD, hx] at hlast
      simp only [Option.getD_some] at hlast
      omega
end Go.Proofs.YtknnbckmdfnmaaaDoor
