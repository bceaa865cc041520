/- Contract of flow.asked. Conditions: the program lies in memory, it fits, its numbers are ones that their types hold, the package variables are laid. Contract of flow.Reach. Conditions: those of asked. Contract of flow.Started. Conditions: those of asked. Plain words for abreastlaw13.known: the program of abreastlaw13.small, and what is told of it. No condition. -/
import Derived.Test.YtgdnpmpnkbnjaaaGreatDoorZCheck
import Derived.Test.YtgdnpmpnkbnjaaaGreatDoorZStarted
import Derived.Test.YtgdnpmpnkbnjaaaGreatDoorZG
namespace Go.Proofs.YtgdnpmpnkbnjaaaGreatDoor
open Go.RowKit

/-- what each question about a program leans on -/
structure Env (p : Prg) (w : World) : Prop where
  fits : p.Fits
  in_ : p.In w w.heap.size
  ops : p.Ops
  gv : GV w.heap.size w
  tab : Tab w
  pos : 0 < w.heap.size
theorem Env.keep {p : Prg} {w w' : World} (h : Env p w) (hb : Below w.heap.size w w') : Env p w' :=
  ⟨h.fits, (h.in_.below hb).more hb.size, h.ops, (h.gv.below hb).more hb.size, h.tab.keep hb h.pos, Nat.lt_of_lt_of_le h.pos hb.size⟩
noncomputable def askedN (p : Prg) (th : Int) : Int := if p.check.e ≠ 0 then 4 else if th < 0 ∨ (p.threads.length : Int) ≤ th then 2 else 0
theorem asked_cases (p : Prg) (th : Int) : askedN p th = 0 ∨ askedN p th = 2 ∨ askedN p th = 4 := by
  unfold askedN
  split
  · simp
  · split <;> simp
theorem asked_ok {p : Prg} {th : Int} (h : askedN p th = 0) : p.check.e = 0 ∧ ∃ k : Nat, th = (k : Int) ∧ k < p.threads.length := by
  unfold askedN at h
  split at h
  · cases h
  · next h1 =>
    split at h
    · cases h
    · exact ⟨by simpa using h1, th.toNat, by omega, by omega⟩
theorem asked_of {p : Prg} (h : p.check.e = 0) {k : Nat} (hk : k < p.threads.length) : askedN p (k : Int) = 0 := by
  unfold askedN
  rw [if_neg (by simpa using h), if_neg (by omega)]
theorem asked_bad {p : Prg} (h : p.check.e ≠ 0) (th : Int) : askedN p th = 4 := if_pos h
set_option maxRecDepth 100000 in
set_option maxHeartbeats 2000000 in
theorem asked_any (p : Prg) (th : Int) (w : World) (hE : Env p w) :
    Calls Tryz.prog 12 #[p.val, .int .i64 th] w fun e w' => e = .returned (.int .i64 (askedN p th)) ∧ Below w.heap.size w w' := by
  have HE := Lib.hid hE; clear hE
  obtain ⟨er, pa, nu, at_, hck⟩ : ∃ er pa nu at_, p.check = ⟨er, pa, nu, at_⟩ := ⟨_, _, _, _, rfl⟩
  have HCK := Lib.hid hck; clear hck
  have hb0 : Hid (Below w.heap.size w (w.alloc (.cells p.cells 27))) := Lib.hid (by go_grown)
  have hbx : Hid (Blk (w.alloc (.cells p.cells 27)) w.heap.size 27 p.cells) := Lib.hid (Blk.new w _ _)
  have hle := HE.out.fits.threads
  have haE : Hid (askedN p th = if er ≠ 0 then 4 else if th < 0 ∨ (p.threads.length : Int) ≤ th then 2 else 0) := Lib.hid (by unfold askedN; rw [HCK.out])
  have hfin : Hid (∀ (w1 : World) (o : Obj), Below (w.alloc (.cells p.cells 27)).heap.size (w.alloc (.cells p.cells 27)) w1 → Below w.heap.size w (w1.alloc o)) := Lib.hid fun w1 o hb => (hb0.out.trans (hb.mono (by simp))).alloc (hb0.out.trans (hb.mono (by simp))).size _
  by_cases he : er = 0
  · subst he
    have h3 : th < 0 ∨ (0 ≤ th ∧ (p.threads.length : Int) ≤ th) ∨ (0 ≤ th ∧ th < (p.threads.length : Int)) := by omega
    rcases h3 with h3 | ⟨h3, h4⟩ | ⟨h3, h4⟩
    · have hr : Hid ((2 : Int) = askedN p th) := Lib.hid (by rw [haE.out, if_neg (by omega), if_pos (.inl h3)])
      have d1 : decide (th < 0) = true := by simp [h3]
      clear h3
      unfold Prg.val
      go_enter Tryz.func12, Tryz.ntmps12
      go_wp2_with (go_at_call 26; refine (check_any p (w.alloc (.cells p.cells 27)) (HE.out.keep hb0.out).fits (HE.out.keep hb0.out).in_ HE.out.ops (HE.out.keep hb0.out).gv).mono ?_; rintro e w1 ⟨rfl, hb⟩; have HB := Lib.hid hb; clear hb; rw [HCK.out]; unfold Spot.val spotV; have d4 : w1.cell? ⟨w.heap.size, 4, none⟩ = some (.slice p.At p.threads.length p.ct) := (hbx.out.below HB.out (by simp)).cell 4; have hlx := (hbx.out.below HB.out (by simp)).lt)
      go_ret
      exact ⟨ret_int hr.out, hfin.out _ _ HB.out⟩
    · have hr : Hid ((2 : Int) = askedN p th) := Lib.hid (by rw [haE.out, if_neg (by omega), if_pos (.inr h4)])
      have d1 : decide (th < 0) = false := by simp; omega
      have d2 : decide ((p.threads.length : Int) ≤ th) = true := by simp [h4]
      clear h3 h4
      unfold Prg.val
      go_enter Tryz.func12, Tryz.ntmps12
      go_wp2_with (go_at_call 26; refine (check_any p (w.alloc (.cells p.cells 27)) (HE.out.keep hb0.out).fits (HE.out.keep hb0.out).in_ HE.out.ops (HE.out.keep hb0.out).gv).mono ?_; rintro e w1 ⟨rfl, hb⟩; have HB := Lib.hid hb; clear hb; rw [HCK.out]; unfold Spot.val spotV; have d4 : w1.cell? ⟨w.heap.size, 4, none⟩ = some (.slice p.At p.threads.length p.ct) := (hbx.out.below HB.out (by simp)).cell 4; have hlx := (hbx.out.below HB.out (by simp)).lt)
      go_ret
      exact ⟨ret_int hr.out, hfin.out _ _ HB.out⟩
    · have hr : Hid ((0 : Int) = askedN p th) := Lib.hid (by rw [haE.out, if_neg (by omega), if_neg (by omega)])
      have d1 : decide (th < 0) = false := by simp; omega
      have d2 : decide ((p.threads.length : Int) ≤ th) = false := by simp; omega
      clear h3 h4
      unfold Prg.val
      go_enter Tryz.func12, Tryz.ntmps12
      go_wp2_with (go_at_call 26; refine (check_any p (w.alloc (.cells p.cells 27)) (HE.out.keep hb0.out).fits (HE.out.keep hb0.out).in_ HE.out.ops (HE.out.keep hb0.out).gv).mono ?_; rintro e w1 ⟨rfl, hb⟩; have HB := Lib.hid hb; clear hb; rw [HCK.out]; unfold Spot.val spotV; have d4 : w1.cell? ⟨w.heap.size, 4, none⟩ = some (.slice p.At p.threads.length p.ct) := (hbx.out.below HB.out (by simp)).cell 4; have hlx := (hbx.out.below HB.out (by simp)).lt)
      go_ret
      exact ⟨ret_int hr.out, hfin.out _ _ HB.out⟩
  · have hr : Hid ((4 : Int) = askedN p th) := Lib.hid (by rw [haE.out, if_pos he])
    have hne : (er != 0) = true := by simp [he]
    clear he
    unfold Prg.val
    go_enter Tryz.func12, Tryz.ntmps12
    go_wp2_with (go_at_call 26; refine (check_any p (w.alloc (.cells p.cells 27)) (HE.out.keep hb0.out).fits (HE.out.keep hb0.out).in_ HE.out.ops (HE.out.keep hb0.out).gv).mono ?_; rintro e w1 ⟨rfl, hb⟩; have HB := Lib.hid hb; clear hb; rw [HCK.out]; unfold Spot.val spotV; have d4 : w1.cell? ⟨w.heap.size, 4, none⟩ = some (.slice p.At p.threads.length p.ct) := (hbx.out.below HB.out (by simp)).cell 4; have hlx := (hbx.out.below HB.out (by simp)).lt)
    go_ret
    exact ⟨ret_int hr.out, hfin.out _ _ HB.out⟩
end Go.Proofs.YtgdnpmpnkbnjaaaGreatDoor
namespace Go.Proofs.YtgdnpmpnkbnjaaaGreatDoor
open Go.RowKit

def encM (x : Nat) : List Value := [.int .i64 (x : Int)]
theorem map_encM (l : List Nat) : l.map encN1 = l.flatMap encM := by
  induction l with
  | nil => rfl
  | cons a r ih => simp only [List.map_cons, List.flatMap_cons, ih]; rfl
/-- a row of the call's own, as it reads -/
theorem own_read {w : World} {base n c : Nat} {A : Option Addr} {l : List Nat} (h : w.ownsRow base 3 1 (.slice A n c) n (l.map encN1)) (hn : n = l.length) : RdL encM 1 w w.heap.size A l := by
  rw [map_encM] at h
  obtain ⟨A', c', hv, _, hr⟩ := RdL.of_own (enc := encM) (fun _ => rfl) hn h
  injection hv with hv _ _
  subst hv
  exact hr
/-- an address that is new: from block B on -/
def NewA (B : Nat) (A : Option Addr) : Prop := ∀ g, A.map (·.block) = some g → B ≤ g
theorem NewA.none_ (B : Nat) : NewA B none := fun g e => by cases e
theorem own_new {w : World} {base B : Nat} {e : TypeId} {size n m c : Nat} {A : Option Addr} {xs : List Value} (h : w.ownsRow base e size (.slice A n c) m xs) (hB : B ≤ base) : NewA B A :=
  fun g hg => Nat.le_trans hB (h.lt g (by rw [ownBlock_sl]; exact hg)).1
noncomputable def Prg.codeAt (p : Prg) (th : Int) : List Ins := match p.threads[th.toNat]? with | some t => t.code | none => []
noncomputable def reachL (p : Prg) (th : Int) : List Nat := if askedN p th = 0 then listM (comeM (p.codeAt th)) else []
theorem codeAt_get {p : Prg} {k : Nat} {t : Thr} (h : p.threads[k]? = some t) : p.codeAt (k : Int) = t.code := by
  unfold Prg.codeAt
  rw [Int.toNat_natCast, h]
set_option maxRecDepth 100000 in
set_option maxHeartbeats 2000000 in
theorem reach_any (p : Prg) (th : Int) (w : World) (hE : Env p w) :
    Calls Tryz.prog 17 #[p.val, .int .i64 th] w fun e w' => ∃ A c, e = .returned (.tuple #[.slice A (reachL p th).length c, .int .i64 (askedN p th)]) ∧ (RdL encM 1 w' w'.heap.size A (reachL p th) ∧ NewA w.heap.size A) ∧ Below w.heap.size w w' := by
  have HE := Lib.hid hE; clear hE
  have hb0 : Hid (Below w.heap.size w (w.alloc (.cells p.cells 27))) := Lib.hid (by go_grown)
  have hbx : Hid (Blk (w.alloc (.cells p.cells 27)) w.heap.size 27 p.cells) := Lib.hid (Blk.new w _ _)
  have hle := HE.out.fits.threads
  rcases asked_cases p th with ha | ha | ha
  · obtain ⟨hck, k, rfl, hk⟩ := asked_ok ha
    have HG := Lib.hid (good_of hck)
    obtain ⟨t, ht⟩ := get_some hk
    have HT := Lib.hid ht
    have hrl : Hid (reachL p (k : Int) = listM (comeM t.code)) := Lib.hid (by unfold reachL; rw [if_pos ha, codeAt_get ht])
    have HA := Lib.hid ha
    have hk2 : (k : Int) < (p.threads.length : Int) := by omega
    clear ha ht hck
    unfold Prg.val
    go_enter Tryz.func17, Tryz.ntmps17
    go_wp2_with first
      | (go_at_call 12; refine (asked_any p k (w.alloc (.cells p.cells 27)) (HE.out.keep hb0.out)).mono ?_; rintro e w1 ⟨rfl, hb⟩; have HB := Lib.hid (hb0.out.trans (hb.mono (by simp))); have HBX := Lib.hid (hbx.out.below hb (by simp)); clear hb; rw [HA.out]; have d4 : w1.cell? ⟨w.heap.size, 4, none⟩ = some (.slice p.At p.threads.length p.ct) := HBX.out.cell 4; have hlx := HBX.out.lt; obtain ⟨g, off, hAg, hgl, _, t1, _⟩ := ((HE.out.keep HB.out).in_.threads).thr HT.out; have HAG := Lib.hid hAg; rw [hAg] at d4; clear hAg)
      | (go_at_call 29; refine (come_set w1 (((HE.out.keep HB.out).in_.thr t (get_mem HT.out)).code) (Nat.le_refl _) (HG.out.code t (get_mem HT.out))).mono ?_; rintro e w2 ⟨b2, A2, c2, ws2, rfl, hs2, hb2⟩; have HS2 := Lib.hid hs2; have HB2 := Lib.hid hb2; clear hs2 hb2)
      | (go_at_call 36; refine (list_set w2 HS2.out ((HE.out.keep HB.out).keep HB2.out).tab ((HE.out.keep HB.out).keep HB2.out).pos).mono ?_; rintro e w3 ⟨v, rfl, ho, _, hb3⟩; obtain ⟨A', c', rfl⟩ := own_form ho; have HOO := Lib.hid ho; have HB3 := Lib.hid hb3; clear ho hb3)
      | fail
    go_ret2
    rw [hrl.out, HA.out]
    exact ⟨A', c', rfl, ⟨own_read HOO.out rfl, own_new HOO.out (Nat.le_trans HB.out.size HB2.out.size)⟩, HB.out.trans ((HB2.out.trans (HB3.out.mono HB2.out.size)).mono HB.out.size)⟩
  all_goals
    have hrl : Hid (reachL p th = []) := Lib.hid (by unfold reachL; rw [if_neg (by rw [ha]; decide)])
    have HA := Lib.hid ha
    clear ha
    unfold Prg.val
    go_enter Tryz.func17, Tryz.ntmps17
    go_wp2_with (go_at_call 12; refine (asked_any p th (w.alloc (.cells p.cells 27)) (HE.out.keep hb0.out)).mono ?_; rintro e w1 ⟨rfl, hb⟩; have HB := Lib.hid (hb0.out.trans (hb.mono (by simp))); clear hb; rw [HA.out])
    go_ret2
    rw [hrl.out, HA.out]
    exact ⟨none, 0, rfl, ⟨RdL.nil_, NewA.none_ _⟩, HB.out⟩
end Go.Proofs.YtgdnpmpnkbnjaaaGreatDoor
namespace Go.Proofs.YtgdnpmpnkbnjaaaGreatDoor
open Go.RowKit

noncomputable def startL (p : Prg) : List Nat := if askedN p 0 = 0 then listM p.startM else []
set_option maxRecDepth 100000 in
set_option maxHeartbeats 2000000 in
theorem startedL_any (p : Prg) (w : World) (hE : Env p w) :
    Calls Tryz.prog 25 #[p.val] w fun e w' => ∃ A c, e = .returned (.tuple #[.slice A (startL p).length c, .int .i64 (askedN p 0)]) ∧ (RdL encM 1 w' w'.heap.size A (startL p) ∧ NewA w.heap.size A) ∧ Below w.heap.size w w' := by
  have HE := Lib.hid hE; clear hE
  have hb0 : Hid (Below w.heap.size w (w.alloc (.cells p.cells 27))) := Lib.hid (by go_grown)
  have hbx : Hid (Blk (w.alloc (.cells p.cells 27)) w.heap.size 27 p.cells) := Lib.hid (Blk.new w _ _)
  have hle := HE.out.fits.threads
  rcases asked_cases p 0 with ha | ha | ha
  · obtain ⟨hck, _⟩ := asked_ok ha
    have HG := Lib.hid (good_of hck)
    have hrl : Hid (startL p = listM p.startM) := Lib.hid (by unfold startL; rw [if_pos ha])
    have HA := Lib.hid ha
    clear ha hck
    unfold Prg.val
    go_enter Tryz.func25, Tryz.ntmps25
    go_wp2_with first
      | (go_at_call 12; refine (asked_any p 0 (w.alloc (.cells p.cells 27)) (HE.out.keep hb0.out)).mono ?_; rintro e w1 ⟨rfl, hb⟩; have HB := Lib.hid (hb0.out.trans (hb.mono (by simp))); have HBX := Lib.hid (hbx.out.below hb (by simp)); clear hb; rw [HA.out]; have d0 := HBX.out.cell 0; have d1 := HBX.out.cell 1; have d2 := HBX.out.cell 2; have d3 := HBX.out.cell 3; have d4 := HBX.out.cell 4; unfold Prg.cells at d0 d1 d2 d3 d4; simp at d0 d1 d2 d3 d4; have hlx := HBX.out.lt)
      | (go_at_call 13; refine (started_set p w1 (HE.out.keep HB.out).in_ HG.out (HE.out.keep HB.out).tab (HE.out.keep HB.out).pos).mono ?_; rintro e w2 ⟨b2, A2, c2, ws2, rfl, hs2, hb2⟩; have HS2 := Lib.hid hs2; have HB2 := Lib.hid hb2; clear hs2 hb2)
      | (go_at_call 36; refine (list_set w2 HS2.out ((HE.out.keep HB.out).keep HB2.out).tab ((HE.out.keep HB.out).keep HB2.out).pos).mono ?_; rintro e w3 ⟨v, rfl, ho, _, hb3⟩; obtain ⟨A', c', rfl⟩ := own_form ho; have HOO := Lib.hid ho; have HB3 := Lib.hid hb3; clear ho hb3)
      | fail
    go_ret2
    rw [hrl.out, HA.out]
    exact ⟨A', c', rfl, ⟨own_read HOO.out rfl, own_new HOO.out (Nat.le_trans HB.out.size HB2.out.size)⟩, HB.out.trans ((HB2.out.trans (HB3.out.mono HB2.out.size)).mono HB.out.size)⟩
  all_goals
    have hrl : Hid (startL p = []) := Lib.hid (by unfold startL; rw [if_neg (by rw [ha]; decide)])
    have HA := Lib.hid ha
    clear ha
    unfold Prg.val
    go_enter Tryz.func25, Tryz.ntmps25
    go_wp2_with (go_at_call 12; refine (asked_any p 0 (w.alloc (.cells p.cells 27)) (HE.out.keep hb0.out)).mono ?_; rintro e w1 ⟨rfl, hb⟩; have HB := Lib.hid (hb0.out.trans (hb.mono (by simp))); clear hb; rw [HA.out])
    go_ret2
    rw [hrl.out, HA.out]
    exact ⟨none, 0, rfl, ⟨RdL.nil_, NewA.none_ _⟩, HB.out⟩
end Go.Proofs.YtgdnpmpnkbnjaaaGreatDoor
namespace Go.Proofs.YtgdnpmpnkbnjaaaGreatDoor
open Go.RowKit

def smallC : List Ins := [⟨15, 0, 0, 0, 0⟩, ⟨9, 0, 0, 0, 3⟩, ⟨16, 0, 0, 0, 0⟩, ⟨20, 0, 0, 0, 0⟩, ⟨20, 0, 0, 0, 0⟩]
/-- a program that is the small one, wherever its lists lie -/
structure IsSmall (p : Prg) : Prop where
  vars : p.vars = []
  vols : p.vols = []
  locks : p.locks = [⟨#[109]⟩]
  bars : p.bars = []
  threads : ∃ t, p.threads = [t] ∧ t.name = ⟨#[116]⟩ ∧ t.code = smallC ∧ t.places = List.replicate 5 ⟨0, 0⟩
theorem name_m : nameB ⟨#[109]⟩ = true := by kernel_rfl
theorem name_t : nameB ⟨#[116]⟩ = true := by kernel_rfl
theorem small_check {p : Prg} (h : IsSmall p) : p.check.e = 0 := by
  obtain ⟨t, ht, hn, hc, hp⟩ := h.threads
  have h0 : p.part0 = 0 := by
    unfold Prg.part0
    rw [h.vars, h.vols, h.locks, h.bars, ht]
    simp [cntPart]
  have h1 : scanP p.names 6 0 [] = none := by
    have e0 : p.names 0 = [] := rfl
    have e1 : p.names 1 = [] := by simp [Prg.names, h.vars]
    have e2 : p.names 2 = [] := by simp [Prg.names, h.vols]
    have e3 : p.names 3 = [⟨#[109]⟩] := by simp [Prg.names, h.locks]
    have e4 : p.names 4 = [] := by simp [Prg.names, h.bars]
    have e5 : p.names 5 = [⟨#[116]⟩] := by simp [Prg.names, ht, hn]
    simp [scanP, scanL, e0, e1, e2, e3, e4, e5, name_m, name_t]
  have h2 : scanB p.bars 0 = none := by rw [h.bars]; rfl
  have h3 : scanT p.cnt p.threads 0 0 = none := by
    have c3 : p.cnt 3 = 1 := by simp [Prg.cnt, Prg.names, h.locks]
    have hl : t.code.length = 5 := by rw [hc]; rfl
    have hf : ∀ x ∈ smallC, 1 ≤ x.op ∧ x.op ≤ 20 ∧ fieldB x t.code.length p.cnt = true := by
      intro x hx
      rw [hl]
      simp only [smallC, List.mem_cons, List.not_mem_nil, or_false] at hx
      have key : ∀ y : Ins, regsOk y → numOk y ((5 : Nat) : Int) p.cnt → fieldB y ((5 : Nat) : Int) p.cnt = true := fun y h1 h2 => by
        simp only [fieldB, decide_eq_true_iff]
        exact ⟨h1, h2⟩
      rcases hx with rfl | rfl | rfl | rfl | rfl
      all_goals
        refine ⟨by decide, by decide, key _ ?_ ?_⟩
        · simp [regsOk, regOk, regsN]
        · simp [numOk, listOf, c3]
    have hs : ∀ (l : List Ins) (i : Nat), (∀ x ∈ l, 1 ≤ x.op ∧ x.op ≤ 20 ∧ fieldB x t.code.length p.cnt = true) → scanI t.code.length p.cnt l i = none := by
      intro l
      induction l with
      | nil => intro i _; rfl
      | cons y r ih =>
        intro i hl
        obtain ⟨a1, a2, a3⟩ := hl y (by simp)
        unfold scanI
        rw [if_neg (by omega), if_pos a3]
        exact ih _ fun x hx => hl x (by simp [hx])
    have hth : (threadR t p.cnt).1 = 0 := by
      unfold threadR
      rw [if_neg (by rw [hp, hl]; simp)]
      have hq : scanQ t.places 0 = none := by rw [hp]; rfl
      rw [hq]
      dsimp only
      rw [hs t.code 0 (fun x hx => hf x (by rw [← hc]; exact hx))]
      dsimp only
      rw [if_pos (by right; rw [hc]; rfl)]
    rw [ht]
    unfold scanT
    rw [if_neg (by rw [hl]; omega), if_pos hth]
    rfl
  rw [check_ok h0 h1 h2 h3]
theorem small_come : ∀ k, Come smallC k ↔ k = 0 ∨ k = 1 ∨ k = 2 ∨ k = 3 := by
  have o0 : onN smallC 0 = [1] := by decide
  have o1 : onN smallC 1 = [2, 3] := by decide
  have o2 : onN smallC 2 = [3] := by decide
  have o3 : onN smallC 3 = [] := by decide
  intro k
  constructor
  · intro h
    induction h with
    | zero => simp
    | step _ hk ih =>
      rcases ih with rfl | rfl | rfl | rfl
      · rw [o0] at hk; simp at hk; simp [hk]
      · rw [o1] at hk; simp at hk; rcases hk with rfl | rfl <;> simp
      · rw [o2] at hk; simp at hk; simp [hk]
      · rw [o3] at hk; cases hk
  · have c1 : Come smallC 1 := .step .zero (by rw [o0]; simp)
    rintro (rfl | rfl | rfl | rfl)
    · exact .zero
    · exact c1
    · exact .step c1 (by rw [o1]; simp)
    · exact .step c1 (by rw [o1]; simp)
theorem small_ok {p : Prg} (h : IsSmall p) : OkCode smallC := by
  obtain ⟨t, ht, _, hc, _⟩ := h.threads
  rw [← hc]
  exact (good_of (small_check h)).code t (by rw [ht]; simp)
theorem bit15 (k : Nat) : (15 : Nat).testBit k = true ↔ k = 0 ∨ k = 1 ∨ k = 2 ∨ k = 3 := by
  constructor
  · intro h
    rcases Nat.lt_or_ge k 4 with h4 | h4
    · omega
    · rw [Nat.testBit_lt_two_pow (Nat.lt_of_lt_of_le (by decide : 15 < 2 ^ 4) (Nat.pow_le_pow_right (by omega) h4))] at h
      cases h
  · rintro (rfl | rfl | rfl | rfl) <;> decide
theorem small_comeM {p : Prg} (h : IsSmall p) : listM (comeM smallC) = [0, 1, 2, 3] := by
  have e : comeM smallC = 15 := mask_ext fun k => by rw [comeM_bit (small_ok h), small_come, bit15]
  rw [e, listM_bound 15 4 (fun k hk => by have := (bit15 k).1 hk; omega)]
  decide
end Go.Proofs.YtgdnpmpnkbnjaaaGreatDoor
