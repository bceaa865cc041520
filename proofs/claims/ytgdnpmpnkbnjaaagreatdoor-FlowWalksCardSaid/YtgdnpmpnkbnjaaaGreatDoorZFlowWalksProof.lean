/- FlowWalks: whatever program, thread and turns: the law is true, and each argument reads as it did. Conditions: those of the given card alone (package variables as the program's text lays them: tied). -/
import Derived.Test.YtgdnpmpnkbnjaaaGreatDoorZLaidF
import Derived.Test.YtgdnpmpnkbnjaaaGreatDoorZFlowWalks
import Derived.Test.YtgdnpmpnkbnjaaaGreatDoorTie
import Derived.Test.YtgdnpmpnkbnjaaaGreatDoorCards
import Derived.SevenTiedAt
namespace Go.Proofs.YtgdnpmpnkbnjaaaGreatDoor
open Go.ChangeShapes Go.WideShapes Go.RowKit

set_option maxRecDepth 100000 in
theorem flowWalks_lifted (os : Os) (started : os.Started) (H : Type) (enc : TypeId × Value → H) :
    ReturnsInHanded {} Tryz.checked os 4 .any (fun w args => (Rows.flowWalksSpec.pre enc Tryz.prog Tryz.f4 [] false w args ∧ laidMetH Tryz.prog Rows.flowAloneRow.laid w) ∧ sizedMet enc Tryz.prog Tryz.f4 (OpenSpec.ofChange Rows.flowWalksSpec) false w args)
      (Rows.flowWalksSpec.post enc Tryz.prog Tryz.f4 false true false false) := by
  refine returnsInHanded_of_change_and (C := Tryz.checked) (X := fun w _ => laidMetH Tryz.prog Rows.flowAloneRow.laid w) (fun _ _ _ hh h => h.of_heap hh) own_ started (by kernel_rfl) Tryz.func4
    (ChangeSpec.witness_shaped (enc := enc) (C := Tryz.checked) (os := os) (X := fun w _ => laidMetH Tryz.prog Rows.flowAloneRow.laid w) false (World.doorLaid Tryz.prog 62 os) #[.agg #[.slice none 0 0, .slice none 0 0, .slice none 0 0, .slice none 0 0, .slice none 0 0], .int .i64 0, .slice none 0 0] 8 rfl (World.shaped_of_RefB (by kernel_rfl) (by kernel_rfl)) (by kernel_rfl) (by kernel_rfl) (by kernel_rfl) (door_met os _)) ?_
  intro W base args ds gs before hval0 hW _ hsz hL _
  have hval : ∀ (j : Nat) t v, Tryz.f4.params[j]? = some t → args[j]? = some v → Value.okWide Tryz.prog W .any base t v := hval0
  have hW' := hW
  obtain ⟨p, q, hA0, hV, rfl, hfz, hnd⟩ := hW
  have hA : DataW.TrodAll enc Tryz.prog W 0 (fun _ => true) true Tryz.f4.params.toList args.toList ds p := hA0
  rw [Tryz.params4] at hA hval
  obtain ⟨v0, v1, v2, d0, d1, d2, p0, p1, p2, rfl, rfl, rfl, h0, h1, h2⟩ := trodAll_three hA
  obtain ⟨rfl, rfl⟩ := trodVars_none hV
  have hwt : Wt Tryz.prog 27 d0 := fun n hn => by
    have := List.all_eq_true.1 hsz n (DataW.weights_mem_each (j := 0) rfl rfl n hn)
    have h : n ≤ reachBytes := by simpa using this
    exact h
  obtain ⟨pr, rfl, hin, hfit, hwf⟩ := open_prg (hval 0 _ _ rfl rfl) h0 hwt
  obtain ⟨a, rfl, rfl, rfl, wa⟩ := open_int Tryz.underlying3 (hval 1 _ v1 rfl rfl) h1
  obtain ⟨a0, len, cap, rfl⟩ := okWide_slice Tryz.underlying39 (hval 2 _ v2 rfl rfl)
  have h2k := h2
  obtain ⟨fuel, hf⟩ := h2
  obtain ⟨A, bs, c, e2, hc, hR, hS⟩ := open_rd (enc' := encBo) (size := 1) (Q := fun _ _ => True) (by decide) (fun _ => rfl) Tryz.underlying39 (by kernel_rfl) (fun n cs' y hy => by
    obtain ⟨b, e, _⟩ := DataW.trod_bool Tryz.underlying4 hy
    exact ⟨b, e, trivial⟩) hf
  have e3 : Value.slice a0 len cap = .slice A bs.length c := by simpa [Value.cells] using e2
  rw [e3] at h2k hW' ⊢
  have hwb : Wt Tryz.prog 39 d2 := fun n hn => by
    have := List.all_eq_true.1 hsz n (DataW.weights_mem_each (j := 2) rfl rfl n hn)
    have h : n ≤ reachBytes := by simpa using this
    exact h
  have hbl := (Sl.fit hS hwb Tryz.underlying39 (b := 1) (by kernel_rfl)).1
  have hlt : ∀ x ∈ p0 ++ [] ++ p2, x.block < W.heap.size := fun x hx => hW'.lt x (by simpa using hx)
  refine (flowWalks_any pr a bs A c W ⟨hfit, hin, hwf.ops, (env0_of_laid hL).gv, (env0_of_laid hL).tab, (env0_of_laid hL).pos⟩ hR (by omega)).mono fun e W' ⟨he, hb⟩ => ?_
  subst he
  have e1 : (Rows.flowWalksSpec.fn H ([d0, .lit (.int .i64 a), d2] ++ [])) = { results := [.lit (.bool true)], args := [d0, .lit (.int .i64 a), d2] } := by simp [Rows.flowWalksSpec]
  refine ⟨_, rfl, _, _, _, [], p0 ++ ([] ++ p2), [], hW', ?_, ?_, ?_, hb.frame _, fun h => by cases h⟩
  · rw [e1]; exact trodAll_mk1 (shut_bool Tryz.underlying4 true)
  · rw [e1]
    exact trodAll_mk3 (Below.trod laidOut_ (by kernel_rfl) (of_decide_eq_true (by kernel_rfl)) h0 hb (fun x hx => hlt x (by simp [hx]))) (shut_int Tryz.underlying3 wa) (Below.trod laidOut_ (by kernel_rfl) (of_decide_eq_true (by kernel_rfl)) h2k hb (fun x hx => hlt x (by simp [hx])))
  · rw [e1]; rfl
theorem flowWalks_holds : Rows.FlowWalksSaid :=
  OpenClaim.holds_of_wide 4 Tryz.f4 rfl rfl rfl rfl rfl rfl rfl ⟨rfl, rfl, rfl, rfl, rfl⟩ rfl rfl rfl rfl rfl (by kernel_rfl) Tryz.func4 (by kernel_rfl)
    (of_decide_eq_true (by kernel_rfl)) (by unfold Func.isWrapper; rw [if_neg (of_decide_eq_false (by kernel_rfl))]; exact ⟨rfl, rfl⟩)
    (fun os started H enc _ => flowWalks_lifted os started H enc)
theorem flowWalks_card : Rows.FlowWalksCardSaid :=
  Claim7.holds_tied_plain_at .later [] [.data, .data, .data, .sentinel, .sentinel] true (true, "f856d35eaaed625b8f8f2ec574a9618c7bf010573ae516c77d2330c93e79b9f7") true
    flowWalks_holds (fun _ h => by cases h) (by kernel_rfl) (fun _ h => by cases h) flowWalks_row_tie rfl ⟨rfl, rfl⟩ (by kernel_rfl) rfl
    (fun f fn hf hfn => by
      obtain rfl : f = 4 := Option.some.inj (hf.symm.trans (show Tryz.prog.funcNamed Tryz.f4.name = some 4 by kernel_rfl))
      obtain rfl : fn = Tryz.f4 := (Option.some.inj (Tryz.func4.symm.trans hfn)).symm
      exact ⟨by kernel_rfl, fun j t ht => by
        rw [Tryz.params4] at ht
        have h3 : t = 27 ∨ t = 3 ∨ t = 39 := by
          rcases j with _ | _ | _ | j
          · left; simpa using ht.symm
          · right; left; simpa using ht.symm
          · right; right; simpa using ht.symm
          · simp at ht
        rcases h3 with rfl | rfl | rfl
        · exact (show Tryz.prog.wantsStandIn 27 = false by kernel_rfl)
        · exact (show Tryz.prog.wantsStandIn 3 = false by kernel_rfl)
        · exact (show Tryz.prog.wantsStandIn 39 = false by kernel_rfl)⟩)
    (by kernel_rfl)
#print axioms flowWalks_card
end Go.Proofs.YtgdnpmpnkbnjaaaGreatDoor
