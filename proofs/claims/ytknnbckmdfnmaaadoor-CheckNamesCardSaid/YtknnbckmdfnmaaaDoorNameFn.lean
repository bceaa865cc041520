/- Contracts of abreastref11.Name and check.Name. Conditions: the sizes of Prg.Fits; the data lies in memory. -/
import Derived.Test.YtknnbckmdfnmaaaDoorRefNames
namespace Go.Proofs.YtknnbckmdfnmaaaDoor
open Go.RowKit

def nameAt (l : List ByteArray) (n : Int) : ByteArray × Bool :=
  if n < 0 then (ByteArray.empty, false) else
  match l[n.toNat]? with
  | some s => (s, true)
  | none => (ByteArray.empty, false)
def nameV (r : ByteArray × Bool) : Value := .tuple #[.string r.1, .bool r.2]
theorem ret_name {r r' : ByteArray × Bool} (h : r = r') : Ending.returned (nameV r) = .returned (nameV r') := by rw [h]
theorem nameAt_neg {l : List ByteArray} {n : Int} (h : n < 0) : nameAt l n = (ByteArray.empty, false) := if_pos h
theorem nameAt_far {l : List ByteArray} {n : Int} (h : (l.length : Int) ≤ n) : nameAt l n = (ByteArray.empty, false) := by
  unfold nameAt
  rw [if_neg (by omega), List.getElem?_eq_none (by omega)]
theorem nameAt_in {l : List ByteArray} {n : Int} {s : ByteArray} (h : 0 ≤ n) (hs : l[n.toNat]? = some s) : nameAt l n = (s, true) := by
  unfold nameAt
  rw [if_neg (by omega), hs]

set_option maxHeartbeats 1000000 in
theorem refNameFn_any (p : Prg) (part n : Int) (w : World) (hf : p.Fits) (hin : p.In w w.heap.size) :
    Calls Tryd.prog 20 #[p.val, .int .i64 part, .int .i64 n] w fun e w' => e = .returned (nameV (nameAt (p.names part.toNat) n)) ∧ Below w.heap.size w w' := by
  have HF := Lib.hid hf; clear hf
  have HI := Lib.hid hin; clear hin
  obtain ⟨N, hN⟩ : ∃ N, p.names part.toNat = N := ⟨_, rfl⟩
  have HN := Lib.hid hN
  rw [hN]; clear hN
  unfold Prg.val
  have h0 : n < 0 ∨ 0 ≤ n ∧ (N.length : Int) ≤ n ∨ 0 ≤ n ∧ n < (N.length : Int) := by omega
  rcases h0 with h0 | ⟨h0, h1⟩ | ⟨h0, h1⟩
  · have hfin := Lib.hid (nameAt_neg (l := N) h0)
    go_enter Tryd.func20, Tryd.ntmps20
    go_wp2_with (go_at_call 28; refine (names_any p part _ HF.out ((HI.out.below ((Below.refl _ _).alloc (Nat.le_refl _) _)).more (by simp))).mono ?_; rintro e w1 ⟨v, rfl, hb, hown⟩; rw [HN.out] at hown; obtain ⟨A, c, rfl, hc, hR⟩ := RdL.of_own (l := N) (n := N.length) (enc := encS) (fun _ => rfl) rfl hown; clear hown )
    go_ret2
    exact ⟨ret_name (r := (ByteArray.empty, false)) hfin.out.symm, ((Below.refl _ _).alloc (Nat.le_refl _) _).trans (hb.mono (by simp))⟩
  · have hfin := Lib.hid (nameAt_far (l := N) h1)
    go_enter Tryd.func20, Tryd.ntmps20
    go_wp2_with (go_at_call 28; refine (names_any p part _ HF.out ((HI.out.below ((Below.refl _ _).alloc (Nat.le_refl _) _)).more (by simp))).mono ?_; rintro e w1 ⟨v, rfl, hb, hown⟩; rw [HN.out] at hown; obtain ⟨A, c, rfl, hc, hR⟩ := RdL.of_own (l := N) (n := N.length) (enc := encS) (fun _ => rfl) rfl hown; clear hown )
    go_ret2
    exact ⟨ret_name (r := (ByteArray.empty, false)) hfin.out.symm, ((Below.refl _ _).alloc (Nat.le_refl _) _).trans (hb.mono (by simp))⟩
  · obtain ⟨s, hs⟩ := get_some (l := N) (k := n.toNat) (by omega)
    have hfin := Lib.hid (nameAt_in h0 hs)
    have hnn : n = (n.toNat : Int) := by omega
    have HS := Lib.hid hs; clear hs
    obtain ⟨k, hk⟩ : ∃ k, n.toNat = k := ⟨_, rfl⟩
    rw [hk] at hnn HS
    clear hk
    subst hnn
    go_enter Tryd.func20, Tryd.ntmps20
    go_wp2_with (go_at_call 28; refine (names_any p part _ HF.out ((HI.out.below ((Below.refl _ _).alloc (Nat.le_refl _) _)).more (by simp))).mono ?_; rintro e w1 ⟨v, rfl, hb, hown⟩; rw [HN.out] at hown; obtain ⟨A, c, rfl, hc, hR⟩ := RdL.of_own (l := N) (n := N.length) (enc := encS) (fun _ => rfl) rfl hown; clear hown ; obtain ⟨g, off, rfl, hgB, q0⟩ := hR.str HS.out)
    go_ret2
    exact ⟨ret_name (r := (s, true)) hfin.out.symm, ((Below.refl _ _).alloc (Nat.le_refl _) _).trans (hb.mono (by simp))⟩
end Go.Proofs.YtknnbckmdfnmaaaDoor
