/- Contracts of (*bits.Set).there, check, Has. Conditions: the set is there, the number is one that a set may hold. -/
import Derived.Test.YtgdnpmpnkbnjaaaGreatDoorZA
import Derived.Shelf.Spec.TrailingZeros
namespace Go.Proofs.YtgdnpmpnkbnjaaaGreatDoor
open Go.RowKit

theorem has_bit (x k : Nat) (hx : x < 18446744073709551616) : (bits BinOp.and IntKind.u64 ((x : Int) / 2 ^ k) 1 != 0) = x.testBit k := by
  have e : (x : Int) / 2 ^ k = ((x / 2 ^ k : Nat) : Int) := by push_cast; rfl
  have hle : x / 2 ^ k < 18446744073709551616 := Nat.lt_of_le_of_lt (Nat.div_le_self _ _) hx
  rw [e, show (1 : Int) = ((1 : Nat) : Int) from rfl, bits_and_u64_nat (x / 2 ^ k) 1 hle (by omega), Nat.testBit_eq_decide_div_mod_eq, Nat.and_one_is_mod]
  rcases Nat.mod_two_eq_zero_or_one (x / 2 ^ k) with h | h <;> simp [h]
theorem there_set (b : Nat) (v : Value) (w : World) (hb : Blk w b 97 #[.bool true, v]) :
    Calls Tryz.prog 49 #[.pointer (some ⟨b, 0, none⟩)] w fun e w' => e = .returned (.bool true) ∧ w = w' := by
  have h0 : w.cell? ⟨b, 0, none⟩ = some (.bool true) := hb.cell 0
  have hl := hb.lt
  clear hb
  go_enter Tryz.func49, Tryz.ntmps49
  go_wp2
  go_ret
  exact ⟨rfl, rfl⟩
set_option maxRecDepth 100000 in
theorem check_set (b n : Nat) (v : Value) (w : World) (hb : Blk w b 97 #[.bool true, v]) (hn : n < 1048576) :
    Calls Tryz.prog 43 #[.pointer (some ⟨b, 0, none⟩), .int .i64 n] w fun e w' => e = .returned (.int .i64 0) ∧ w = w' := by
  have HB := Lib.hid hb; clear hb
  have h0 : (0 : Int) ≤ (n : Int) := by omega
  have h1 : decide ((1048576 : Int) ≤ (n : Int)) = false := by rw [decide_eq_false_iff_not]; omega
  have h2 : decide ((n : Int) < 0) = false := by rw [decide_eq_false_iff_not]; omega
  clear hn h0
  go_enter Tryz.func43, Tryz.ntmps43
  go_wp2_with (go_at_call 49; refine (there_set b v w HB.out).mono ?_; rintro e w' ⟨rfl, rfl⟩)
  go_ret
  exact ⟨rfl, rfl⟩
set_option maxRecDepth 100000 in
set_option maxHeartbeats 1000000 in
theorem has_set {base b c S : Nat} {A : Option Addr} {ws : List Nat} (n : Nat) (w : World) (h : SetAt w base b A c ws S) (hn : n < 1048576) :
    Calls Tryz.prog 23 #[.pointer (some ⟨b, 0, none⟩), .int .i64 n] w fun e w' => e = .returned (.bool (S.testBit n)) ∧ w = w' := by
  have hb := h.box
  have h1 : w.cell? ⟨b, 1, none⟩ = some (.slice A ws.length c) := hb.cell 1
  have hl := hb.lt
  have HB := Lib.hid hb; clear hb
  have hwl : ws.length ≤ 16384 := h.rep.len
  have h0 : (0 : Int) ≤ (n : Int) := by omega
  have HN := Lib.hid hn
  by_cases hk : n / 64 < ws.length
  · obtain ⟨x, hx, hxl, hbit⟩ := h.word_get hk
    obtain ⟨g, rfl, hgl, _, _, hc, _⟩ := h.word hx
    have HBIT := Lib.hid hbit
    clear h hx hbit hn
    have hk1 : (n : Int) / 64 < (ws.length : Int) := by omega
    have hk2 : ((n : Int) / 64).toNat = n / 64 := by omega
    have hk3 : (0 : Int) ≤ (n : Int) / 64 := by omega
    go_enter Tryz.func23, Tryz.ntmps23
    go_wp2_with (go_at_call 43; refine (check_set b n _ w HB.out HN.out).mono ?_; rintro e w' ⟨rfl, rfl⟩)
    go_ret
    exact ⟨ret_bool ((has_bit x (n % 64) hxl).trans HBIT.out.symm), rfl⟩
  · have hk1 : decide ((n : Int) / 64 < (ws.length : Int)) = false := by rw [decide_eq_false_iff_not]; omega
    have hk2 : (n : Int) / 64 ≤ 16384 := by omega
    have hk3 : (0 : Int) ≤ (n : Int) / 64 := by omega
    have hf := h.out (by omega : ws.length ≤ n / 64)
    have HFF := Lib.hid hf
    clear h hf hn hk
    go_enter Tryz.func23, Tryz.ntmps23
    go_wp2_with (go_at_call 43; refine (check_set b n _ w HB.out HN.out).mono ?_; rintro e w' ⟨rfl, rfl⟩)
    go_ret
    exact ⟨ret_bool HFF.out.symm, rfl⟩
end Go.Proofs.YtgdnpmpnkbnjaaaGreatDoor
