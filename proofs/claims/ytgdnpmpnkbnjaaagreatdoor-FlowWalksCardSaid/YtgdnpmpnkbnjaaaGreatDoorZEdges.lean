/- Contract of flow.Edges. Conditions: those of asked. -/
import Derived.Test.YtgdnpmpnkbnjaaaGreatDoorZJ
namespace Go.Proofs.YtgdnpmpnkbnjaaaGreatDoor
open Go.RowKit

def encE (x : Nat × Nat) : List Value := [.int .i64 (x.1 : Int), .int .i64 (x.2 : Int)]
def edgesP (code : List Ins) (i : Nat) : List (Nat × Nat) := (List.range i).flatMap fun i => (onN code i).map fun k => (i, k)
noncomputable def edgesL (p : Prg) (th : Int) : List (Nat × Nat) := if askedN p th = 0 then edgesP (p.codeAt th) (p.codeAt th).length else []
theorem edges_mem {code : List Ins} {i k : Nat} (hi : i < code.length) (hk : k ∈ onN code i) : (i, k) ∈ edgesP code code.length :=
  List.mem_flatMap.2 ⟨i, List.mem_range.2 hi, List.mem_map.2 ⟨k, hk, rfl⟩⟩
theorem edgesP_succ (code : List Ins) (i : Nat) : edgesP code (i + 1) = edgesP code i ++ (onN code i).map fun k => (i, k) := by
  unfold edgesP
  rw [List.range_succ, List.flatMap_append]
  simp
theorem edges_len (code : List Ins) (i : Nat) : (edgesP code i).length ≤ 2 * i := by
  induction i with
  | zero => simp [edgesP]
  | succ i ih =>
    rw [edgesP_succ, List.length_append, List.length_map]
    have := on_two (code := code) i
    omega
def edgesQ (code : List Ins) (i j : Nat) : List (Nat × Nat) := edgesP code i ++ ((onN code i).take j).map fun k => (i, k)
theorem edgesQ_zero (code : List Ins) (i : Nat) : edgesQ code i 0 = edgesP code i := by simp [edgesQ]
theorem edgesQ_end (code : List Ins) (i : Nat) : edgesQ code i (onN code i).length = edgesP code (i + 1) := by
  rw [edgesP_succ]
  simp [edgesQ]
theorem edgesQ_succ {code : List Ins} {i j k : Nat} (hk : (onN code i)[j]? = some k) : edgesQ code i (j + 1) = edgesQ code i j ++ [(i, k)] := by
  unfold edgesQ
  rw [List.take_add_one, hk]
  simp
theorem edgesQ_len (code : List Ins) (i j : Nat) : (edgesQ code i j).length ≤ 2 * i + 2 := by
  unfold edgesQ
  have h1 := edges_len code i
  have h2 := on_two (code := code) i
  have h3 : ((onN code i).take j).length ≤ (onN code i).length := by simp; omega
  simp only [List.length_append, List.length_map]
  omega
theorem info_edge : (Tryz.prog.info? 56).map (fun i => (i.zero, i.size, i.bytes)) = some (some (.agg #[.int .i64 0, .int .i64 0]), 2, 16) := by kernel_rfl
set_option maxRecDepth 100000 in
set_option maxHeartbeats 2000000 in
theorem edges_any (p : Prg) (th : Int) (w : World) (hE : Env p w) :
    Calls Tryz.prog 24 #[p.val, .int .i64 th] w fun e w' => ∃ A c, e = .returned (.tuple #[.slice A (edgesL p th).length c, .int .i64 (askedN p th)]) ∧ (RdL encE 2 w' w'.heap.size A (edgesL p th) ∧ NewA w.heap.size A) ∧ Below w.heap.size w w' := by
  obtain ⟨i0, hi0, iz0, iz1, iz2⟩ := info_parts info_edge
  have HE := Lib.hid hE; clear hE
  have hb0 : Hid (Below w.heap.size w (w.alloc (.cells p.cells 27))) := Lib.hid (by go_grown)
  have hbx : Hid (Blk (w.alloc (.cells p.cells 27)) w.heap.size 27 p.cells) := Lib.hid (Blk.new w _ _)
  have hle := HE.out.fits.threads
  rcases asked_cases p th with ha | ha | ha
  · obtain ⟨hck, k, rfl, hk⟩ := asked_ok ha
    have HG := Lib.hid (good_of hck)
    obtain ⟨t, ht⟩ := get_some hk
    have HT := Lib.hid ht
    have hrl : Hid (edgesL p (k : Int) = edgesP t.code t.code.length) := Lib.hid (by unfold edgesL; rw [if_pos ha, codeAt_get ht])
    have HA := Lib.hid ha
    have hk2 : (k : Int) < (p.threads.length : Int) := by omega
    have hcl := (HG.out.code t (get_mem ht)).le
    clear ha ht hck
    unfold Prg.val
    go_enter Tryz.func24, Tryz.ntmps24
    go_wp2_with first
      | (go_at_call 12; refine (asked_any p k (w.alloc (.cells p.cells 27)) (HE.out.keep hb0.out)).mono ?_; rintro e w1 ⟨rfl, hb⟩; have HB := Lib.hid (hb0.out.trans (hb.mono (by simp))); have HBX := Lib.hid (hbx.out.below hb (by simp)); clear hb; rw [HA.out]; have d4 : w1.cell? ⟨w.heap.size, 4, none⟩ = some (.slice p.At p.threads.length p.ct) := HBX.out.cell 4; have hlx := HBX.out.lt; obtain ⟨g, off, hAg, hgl, _, t1, _⟩ := ((HE.out.keep HB.out).in_.threads).thr HT.out; have HAG := Lib.hid hAg; rw [hAg] at d4; clear hAg)
      | fail
    have hbw1 : Hid (w.heap.size ≤ w1.heap.size) := Lib.hid HB.out.size
    have hrc : Hid (RdL encI 5 w1 w1.heap.size t.Ac t.code) := Lib.hid ((HE.out.keep HB.out).in_.thr t (get_mem HT.out)).code
    clear d4 hlx hgl t1
    go_loopw [7, 26] (fun v iv wr => ∃ (A1 : Option Addr) (c1 : Nat) (i : Nat), v = .slice A1 (edgesP t.code i).length c1 ∧ iv = .int .i64 i ∧ i ≤ t.code.length ∧ wr.ownsRow w1.heap.size 56 2 (.slice A1 (edgesP t.code i).length c1) (edgesP t.code i).length ((edgesP t.code i).flatMap encE) ∧ Below w1.heap.size w1 wr) (fun _ iv _ => t.code.length - (intOf iv).toNat)
    case atStart => exact ⟨none, 0, 0, rfl, rfl, by omega, World.ownsRow_nil _ _ _ _, Below.refl _ _⟩
    case round =>
      obtain ⟨A1, c1, i, rfl, rfl, hi, hown, hbl⟩ := hrel
      have HOW := Lib.hid hown
      have HBL := Lib.hid hbl
      clear hown hbl
      by_cases hlt : i < t.code.length
      · have hi2 : (i : Int) < (t.code.length : Int) := by omega
        go_wp2_with first
          | (go_at_call 44; refine (on_row i wr (hrc.out.below HBL.out) HBL.out.size (HG.out.code t (get_mem HT.out)) hlt).mono ?_; rintro e w2 ⟨v, rfl, ho, hb2⟩; obtain ⟨Ao, co, rfl⟩ := own_form ho; have HO := Lib.hid ho; have HB2 := Lib.hid hb2; clear ho hb2)
          | fail
        have hon2 := on_two (code := t.code) i
        have HOW2 : Hid (w2.ownsRow w1.heap.size 56 2 (.slice A1 (edgesP t.code i).length c1) (edgesP t.code i).length ((edgesP t.code i).flatMap encE)) := Lib.hid (own_foot HOW.out (Foot.of_below HB2.out) (fun k hk => by have := (HOW.out.lt k hk).2; omega))
        have HBL2 : Hid (Below w1.heap.size w1 w2) := Lib.hid (HBL.out.trans (HB2.out.mono HBL.out.size))
        go_loopw [7, 33] (fun v jv wq => ∃ (A3 : Option Addr) (c3 : Nat) (j : Nat), v = .slice A3 (edgesQ t.code i j).length c3 ∧ jv = .int .i64 j ∧ j ≤ (onN t.code i).length ∧ wq.ownsRow w1.heap.size 56 2 (.slice A3 (edgesQ t.code i j).length c3) (edgesQ t.code i j).length ((edgesQ t.code i j).flatMap encE) ∧ wq.ownsRow wr.heap.size 3 1 (.slice Ao (onN t.code i).length co) (onN t.code i).length ((onN t.code i).map encN1) ∧ Below w1.heap.size w1 wq) (fun _ jv _ => (onN t.code i).length - (intOf jv).toNat)
        case atStart => exact ⟨A1, c1, 0, by rw [edgesQ_zero], rfl, by omega, by rw [edgesQ_zero]; exact HOW2.out, HO.out, HBL2.out⟩
        case round =>
          obtain ⟨A3, c3, j, rfl, rfl, hj, hown, hor, hbl⟩ := hrel
          have HO3 := Lib.hid hown
          have HR3 := Lib.hid hor
          have HB3 := Lib.hid hbl
          clear hown hor hbl
          by_cases hjl : j < (onN t.code i).length
          · obtain ⟨k', hk'⟩ := get_some hjl
            obtain ⟨go, rfl, hgol, hcg⟩ := own_num HR3.out rfl hk'
            have HK := Lib.hid hk'
            clear hk'
            have hj2 : (j : Int) < ((onN t.code i).length : Int) := by omega
            have hql := edgesQ_len t.code i j
            have hbq : w1.heap.size ≤ wr.heap.size := HB3.out.size
            go_wp2_with (at_builtin; go_must (refine wpList_append_one rfl (.tmp 37) (.tmp 41) _ rfl _ _ w1.heap.size 56 i0 _ 2 16 Tryz.underlying40 hi0 iz0 iz1 iz2 rfl (by omega) (.slice A3 (edgesQ t.code i j).length c3) (edgesQ t.code i j).length _ (by rfl) _ (by rfl) (by simp) (by rfl) (by simp [Value.oneCell']) (by exact HO3.out) (by simp only [maxLen]; omega) (by omega) hbq ?_); intro g1 k1 w4 ho hg hat hbg hgl; have HO5 := Lib.hid ho; have HG5 := Lib.hid hg; clear ho hg hat hbg hgl)
            have hl6 : (edgesQ t.code i (j + 1)).length = (edgesQ t.code i j).length + 1 := by rw [edgesQ_succ HK.out]; simp
            have HO6 : Hid (w4.ownsRow w1.heap.size 56 2 (.slice (some ⟨g1, 0, none⟩) (edgesQ t.code i (j + 1)).length k1) (edgesQ t.code i (j + 1)).length ((edgesQ t.code i (j + 1)).flatMap encE)) := Lib.hid (by
              rw [hl6, edgesQ_succ HK.out, List.flatMap_append]
              have := HO5.out
              simpa [encE] using this)
            have HL6 := Lib.hid hl6
            clear hl6
            go_roundw
            case rel => exact ⟨some ⟨g1, 0, none⟩, k1, j + 1, by rw [HL6.out], by go_num, by omega, HO6.out, own_foot HR3.out (Foot.of_grown HG5.out) (fun k hk e => own_own_ne HR3.out HO3.out (by decide) k hk e), HB3.out.trans (Foot.below ((Foot.of_grown HG5.out).mono fun x _ hx => (HO3.out.lt x hx).1) HB3.out.size)⟩
            case measure => simp [intOf]; omega
          · obtain rfl : j = (onN t.code i).length := by omega
            have hd : decide (((onN t.code i).length : Int) < ((onN t.code i).length : Int)) = false := by simp
            go_wp2_with fail
            go_roundw
            case rel => exact ⟨A3, c3, i + 1, by rw [edgesQ_end], by go_num, by omega, by rw [← edgesQ_end]; exact HO3.out, HB3.out⟩
            case measure => simp [intOf]; omega
      · obtain rfl : i = t.code.length := by omega
        have hd : decide ((t.code.length : Int) < (t.code.length : Int)) = false := by simp
        go_wp2_with fail
        go_ret2
        rw [hrl.out, HA.out]
        obtain ⟨A', c', hv, _, hrd⟩ := RdL.of_own (enc := encE) (fun _ => rfl) rfl HOW.out
        injection hv with hv _ _
        subst hv
        exact ⟨A1, c1, rfl, ⟨hrd, own_new HOW.out hbw1.out⟩, HB.out.trans (HBL.out.mono HB.out.size)⟩
  all_goals
    have hrl : Hid (edgesL p th = []) := Lib.hid (by unfold edgesL; rw [if_neg (by rw [ha]; decide)])
    have HA := Lib.hid ha
    clear ha
    unfold Prg.val
    go_enter Tryz.func24, Tryz.ntmps24
    go_wp2_with (go_at_call 12; refine (asked_any p th (w.alloc (.cells p.cells 27)) (HE.out.keep hb0.out)).mono ?_; rintro e w1 ⟨rfl, hb⟩; have HB := Lib.hid (hb0.out.trans (hb.mono (by simp))); clear hb; rw [HA.out])
    go_ret2
    rw [hrl.out, HA.out]
    exact ⟨none, 0, rfl, ⟨RdL.nil_, NewA.none_ _⟩, HB.out⟩
end Go.Proofs.YtgdnpmpnkbnjaaaGreatDoor
