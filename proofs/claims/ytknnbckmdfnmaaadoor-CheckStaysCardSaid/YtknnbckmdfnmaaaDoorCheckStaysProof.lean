/- CheckStays: whatever program, thread and turns: the law is true, and each argument reads as it did. Conditions: those of the given card alone (package variables as the program's text lays them: tied). -/
import Derived.Test.YtknnbckmdfnmaaaDoorLaid
import Derived.Test.YtknnbckmdfnmaaaDoorStays
import Derived.Test.YtknnbckmdfnmaaaDoorTie
import Derived.Test.YtknnbckmdfnmaaaDoorCards
import Derived.SevenTiedAt
namespace Go.Proofs.YtknnbckmdfnmaaaDoor
open Go.ChangeShapes Go.WideShapes Go.RowKit

set_option maxRecDepth 100000 in
theorem checkStays_lifted (os : Os) (started : os.Started) (H : Type) (enc : TypeId × Value → H) :
    ReturnsInHanded {} Tryd.checked os 5 .any (fun w args => (Rows.checkStaysSpec.pre enc Tryd.prog Tryd.f5 [] false w args ∧ laidMetH Tryd.prog Rows.checkNamesRow.laid w) ∧ sizedMet enc Tryd.prog Tryd.f5 (OpenSpec.ofChange Rows.checkStaysSpec) false w args)
      (Rows.checkStaysSpec.post enc Tryd.prog Tryd.f5 false true false false) := by
  refine returnsInHanded_of_change_and (C := Tryd.checked) (X := fun w _ => laidMetH Tryd.prog Rows.checkNamesRow.laid w) (fun _ _ _ hh h => h.of_heap hh) own_ started (by kernel_rfl) Tryd.func5
    (ChangeSpec.witness_shaped (enc := enc) (C := Tryd.checked) (os := os) (X := fun w _ => laidMetH Tryd.prog Rows.checkNamesRow.laid w) false (World.doorLaid Tryd.prog 62 os) #[.agg #[.slice none 0 0, .slice none 0 0, .slice none 0 0, .slice none 0 0, .slice none 0 0], .int .i64 0, .slice none 0 0] 8 rfl (World.shaped_of_RefB (by kernel_rfl) (by kernel_rfl)) (by kernel_rfl) (by kernel_rfl) (by kernel_rfl) (door_met os _)) ?_
  intro W base args ds gs before hval0 hW _ hsz hL _
  have hval : ∀ (j : Nat) t v, Tryd.f5.params[j]? = some t → args[j]? = some v → Value.okWide Tryd.prog W .any base t v := hval0
  have hW' := hW
  obtain ⟨p, q, hA0, hV, rfl, hfz, hnd⟩ := hW
  have hA : DataW.TrodAll enc Tryd.prog W 0 (fun _ => true) true Tryd.f5.params.toList args.toList ds p := hA0
  rw [Tryd.params5] at hA hval
  obtain ⟨v0, v1, v2, d0, d1, d2, p0, p1, p2, rfl, rfl, rfl, h0, h1, h2⟩ := trodAll_three hA
  obtain ⟨rfl, rfl⟩ := trodVars_none hV
  have hwt : Wt Tryd.prog 27 d0 := fun n hn => by
    have := List.all_eq_true.1 hsz n (DataW.weights_mem_each (j := 0) rfl rfl n hn)
    have h : n ≤ reachBytes := by simpa using this
    exact h
  obtain ⟨pr, rfl, hin, hfit, hwf⟩ := open_prg (hval 0 _ _ rfl rfl) h0 hwt
  obtain ⟨a, rfl, rfl, rfl, wa⟩ := open_int Tryd.underlying3 (hval 1 _ v1 rfl rfl) h1
  obtain ⟨a0, len, cap, rfl⟩ := okWide_slice Tryd.underlying55 (hval 2 _ v2 rfl rfl)
  have h2k := h2
  obtain ⟨fuel, hf⟩ := h2
  obtain ⟨A, bs, c, e2, hc, hR, hS⟩ := open_rd (enc' := encB) (size := 1) (Q := fun _ _ => True) (by decide) (fun _ => rfl) Tryd.underlying55 (by kernel_rfl) (fun n cs' y hy => by
    obtain ⟨b, e, _⟩ := DataW.trod_bool Tryd.underlying4 hy
    exact ⟨b, e, trivial⟩) hf
  have e3 : Value.slice a0 len cap = .slice A bs.length c := by simpa [Value.cells] using e2
  rw [e3] at h2k hW' ⊢
  have hwb : Wt Tryd.prog 55 d2 := fun n hn => by
    have := List.all_eq_true.1 hsz n (DataW.weights_mem_each (j := 2) rfl rfl n hn)
    have h : n ≤ reachBytes := by simpa using this
    exact h
  have hbl := (Sl.fit hS hwb Tryd.underlying55 (b := 1) (by kernel_rfl)).1
  have hlt : ∀ x ∈ p0 ++ [] ++ p2, x.block < W.heap.size := fun x hx => hW'.lt x (by simpa using hx)
  refine (checkStays_any pr a A c bs W hfit hin hwf.ops (gv_of_laid hL) hR (by omega)).mono fun e W' ⟨he, hb⟩ => ?_
  subst he
  have e1 : (Rows.checkStaysSpec.fn H ([d0, .lit (.int .i64 a), d2] ++ [])) = { results := [.lit (.bool true)], args := [d0, .lit (.int .i64 a), d2] } := by simp [Rows.checkStaysSpec]
  refine ⟨_, rfl, _, _, _, [], p0 ++ ([] ++ p2), [], hW', ?_, ?_, ?_, hb.frame _, fun h => by cases h⟩
  · rw [e1]; exact trodAll_mk1 (shut_bool Tryd.underlying4 true)
  · rw [e1]
    exact trodAll_mk3 (Below.trod laidOut_ (by kernel_rfl) (of_decide_eq_true (by kernel_rfl)) h0 hb (fun x hx => hlt x (by simp [hx]))) (shut_int Tryd.underlying3 wa) (Below.trod laidOut_ (by kernel_rfl) (of_decide_eq_true (by kernel_rfl)) h2k hb (fun x hx => hlt x (by simp [hx])))
  · rw [e1]; rfl
theorem checkStays_holds : Rows.CheckStaysSaid :=
  OpenClaim.holds_of_wide 5 Tryd.f5 rfl rfl rfl rfl rfl rfl rfl ⟨rfl, rfl, rfl, rfl, rfl⟩ rfl rfl rfl rfl rfl (by kernel_rfl) Tryd.func5 (by kernel_rfl)
    (of_decide_eq_true (by kernel_rfl)) (by unfold Func.isWrapper; rw [if_neg (of_decide_eq_false (by kernel_rfl))]; exact ⟨rfl, rfl⟩)
    (fun os started H enc _ => checkStays_lifted os started H enc)
theorem checkStays_card : Rows.CheckStaysCardSaid :=
  Claim7.holds_tied_plain_at .later [] [.data, .data, .data, .sentinel, .sentinel] true (true, "c1db7c045d6aed0a3631eca4e0d397d80639d082b7500a3a02b24c7dc2f512a0") true
    checkStays_holds (fun _ h => by cases h) (by kernel_rfl) (fun _ h => by cases h) checkStays_row_tie rfl ⟨rfl, rfl⟩ (by kernel_rfl) rfl
    (fun f fn hf hfn => by
      obtain rfl : f = 5 := Option.some.inj (hf.symm.trans (show Tryd.prog.funcNamed Tryd.f5.name = some 5 by kernel_rfl))
      obtain rfl : fn = Tryd.f5 := (Option.some.inj (Tryd.func5.symm.trans hfn)).symm
      exact ⟨by kernel_rfl, fun j t ht => by
        rw [Tryd.params5] at ht
        have h3 : t = 27 ∨ t = 3 ∨ t = 55 := by
          rcases j with _ | _ | _ | j
          · left; simpa using ht.symm
          · right; left; simpa using ht.symm
          · right; right; simpa using ht.symm
          · simp at ht
        rcases h3 with rfl | rfl | rfl
        · exact (show Tryd.prog.wantsStandIn 27 = false by kernel_rfl)
        · exact (show Tryd.prog.wantsStandIn 3 = false by kernel_rfl)
        · exact (show Tryd.prog.wantsStandIn 55 = false by kernel_rfl)⟩)
    (by kernel_rfl)
#print axioms checkStays_card
end Go.Proofs.YtknnbckmdfnmaaaDoor
