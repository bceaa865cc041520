/- Contract of math/bits.OnesCount64. No condition. -/
import Derived.Test.YtgdnpmpnkbnjaaaGreatDoorZA
import Derived.IntWalk
namespace Go.Proofs.YtgdnpmpnkbnjaaaGreatDoor
open Go.RowKit

theorem u64_and (a b : Nat) (m : Int) (hm : m = (b : Int)) (ha : a < 18446744073709551616) (hb : b < 18446744073709551616) : bits BinOp.and IntKind.u64 (a : Int) m = ((a &&& b : Nat) : Int) := by
  subst hm
  have h1 : (BitVec.ofInt 64 (a : Int) &&& BitVec.ofInt 64 (b : Int)).toNat = a &&& b := by
    rw [BitVec.toNat_and, BitVec.ofInt_natCast, BitVec.ofInt_natCast, BitVec.toNat_ofNat, BitVec.toNat_ofNat, Nat.mod_eq_of_lt (a := a) ha, Nat.mod_eq_of_lt (a := b) hb]
  have h2 : a &&& b ≤ a := Nat.and_le_left
  show IntKind.u64.wrap ((BitVec.ofInt 64 (a : Int) &&& BitVec.ofInt 64 (b : Int)).toNat : Int) = _
  rw [h1, IntKind.wrap_u64]
  omega
theorem u64_in (a : Nat) (ha : a < 18446744073709551616) : IntKind.u64.wrap (a : Int) = (a : Int) := by
  rw [IntKind.wrap_u64]; omega
theorem i64_127 (t : Nat) (ht : t < 18446744073709551616) : bits BinOp.and IntKind.i64 (IntKind.i64.wrap (t : Int)) 127 = ((t % 128 : Nat) : Int) := by
  have h0 : BitVec.ofInt 64 (IntKind.i64.wrap (t : Int)) = BitVec.ofNat 64 t := by
    rw [IntKind.wrap_i64]
    apply BitVec.eq_of_toNat_eq
    rw [BitVec.toNat_ofInt, BitVec.toNat_ofNat]
    omega
  have h1 : (BitVec.ofInt 64 (IntKind.i64.wrap (t : Int)) &&& BitVec.ofInt 64 127).toNat = t % 128 := by
    rw [h0, BitVec.toNat_and, BitVec.toNat_ofNat, Nat.mod_eq_of_lt (a := t) ht]
    show t &&& 127 = _
    rw [show (127 : Nat) = 2 ^ 7 - 1 by decide, Nat.and_two_pow_sub_one_eq_mod]
  show IntKind.i64.wrap ((BitVec.ofInt 64 (IntKind.i64.wrap (t : Int)) &&& BitVec.ofInt 64 127).toNat : Int) = _
  rw [h1, IntKind.wrap_i64]
  omega
set_option maxRecDepth 100000 in
set_option maxHeartbeats 2000000 in
theorem ones_count (x : Nat) (w : World) (hx : x < 18446744073709551616) :
    Calls Tryz.prog 55 #[.int .u64 (x : Int)] w fun e w' => e = .returned (.int .i64 ((pop 64 x : Nat) : Int)) ∧ w' = w := by
  go_enter Tryz.func55, Tryz.ntmps55
  go_wp2_with fail
  have hm1 : rep 85 8 = 6148914691236517205 := by decide
  have hm2 : rep 51 8 = 3689348814741910323 := by decide
  have hm3 : rep 15 8 = 1085102592571150095 := by decide
  have e1 : bits BinOp.and IntKind.u64 ((x : Int) / 2) 6148914691236517205 = (((x >>> 1) &&& rep 85 8 : Nat) : Int) := by
    rw [← u64_and (x >>> 1) (rep 85 8) 6148914691236517205 (by rw [hm1]; rfl) (by rw [Nat.shiftRight_eq_div_pow]; omega) (by rw [hm1]; decide), Nat.shiftRight_eq_div_pow]
    rfl
  have e2 : bits BinOp.and IntKind.u64 (x : Int) 6148914691236517205 = ((x &&& rep 85 8 : Nat) : Int) := u64_and x _ _ (by rw [hm1]; rfl) hx (by rw [hm1]; decide)
  have a1 : st1 (rep 85 8) x ≤ 12297829382473034410 := by
    unfold st1
    have h1 : (x >>> 1) &&& rep 85 8 ≤ rep 85 8 := Nat.and_le_right
    have h2 : x &&& rep 85 8 ≤ rep 85 8 := Nat.and_le_right
    rw [hm1] at h1 h2 ⊢
    omega
  have e3 : IntKind.u64.wrap (bits BinOp.and IntKind.u64 ((x : Int) / 2) 6148914691236517205 + bits BinOp.and IntKind.u64 (x : Int) 6148914691236517205) = ((st1 (rep 85 8) x : Nat) : Int) := by
    rw [e1, e2]
    exact u64_in (st1 (rep 85 8) x) (by omega)
  rw [e3]
  obtain ⟨hs, _⟩ := st_pops 8 x hx
  obtain ⟨t1, t2, t3, h1, h2, h3, b0, b1, b2, b3, ht, hp⟩ := pop_tail x
  generalize st1 (rep 85 8) x = a at *
  have e4 : bits BinOp.and IntKind.u64 ((a : Int) / 4) 3689348814741910323 = (((a >>> 2) &&& rep 51 8 : Nat) : Int) := by
    rw [← u64_and (a >>> 2) (rep 51 8) 3689348814741910323 (by rw [hm2]; rfl) (by rw [Nat.shiftRight_eq_div_pow]; omega) (by rw [hm2]; decide), Nat.shiftRight_eq_div_pow]
    rfl
  have e5 : bits BinOp.and IntKind.u64 (a : Int) 3689348814741910323 = ((a &&& rep 51 8 : Nat) : Int) := u64_and a _ _ (by rw [hm2]; rfl) (by omega) (by rw [hm2]; decide)
  have a2 : st2 (rep 51 8) a ≤ 7378697629483820646 := by
    unfold st2
    have h1 : (a >>> 2) &&& rep 51 8 ≤ rep 51 8 := Nat.and_le_right
    have h2 : a &&& rep 51 8 ≤ rep 51 8 := Nat.and_le_right
    rw [hm2] at h1 h2 ⊢
    omega
  have e6 : IntKind.u64.wrap (bits BinOp.and IntKind.u64 ((a : Int) / 4) 3689348814741910323 + bits BinOp.and IntKind.u64 (a : Int) 3689348814741910323) = ((st2 (rep 51 8) a : Nat) : Int) := by
    rw [e4, e5]
    exact u64_in (st2 (rep 51 8) a) (by omega)
  rw [e6]
  generalize st2 (rep 51 8) a = b at *
  clear e1 e2 e3 e4 e5 e6
  have e7 : bits BinOp.and IntKind.u64 (IntKind.u64.wrap ((b : Int) / 16 + (b : Int))) 1085102592571150095 = ((pops 8 x : Nat) : Int) := by
    have h : IntKind.u64.wrap ((b : Int) / 16 + (b : Int)) = ((b / 16 + b : Nat) : Int) := u64_in (b / 16 + b) (by omega)
    rw [h, u64_and (b / 16 + b) (rep 15 8) 1085102592571150095 (by rw [hm3]; rfl) (by omega) (by rw [hm3]; decide), ← hs]
    unfold st3
    rw [Nat.shiftRight_eq_div_pow]
  rw [e7]
  clear e7
  generalize pops 8 x = p at *
  have e8 : IntKind.u64.wrap ((p : Int) + (p : Int) / 256) = (t1 : Int) := by
    rw [h1] at b1 ⊢
    exact u64_in (p + p / 256) b1
  rw [e8]
  have e9 : IntKind.u64.wrap ((t1 : Int) + (t1 : Int) / 65536) = (t2 : Int) := by
    rw [h2] at b2 ⊢
    exact u64_in (t1 + t1 / 65536) b2
  rw [e9]
  have e10 : IntKind.u64.wrap ((t2 : Int) + (t2 : Int) / 4294967296) = (t3 : Int) := by
    rw [h3] at b3 ⊢
    exact u64_in (t2 + t2 / 4294967296) b3
  have e11 : bits BinOp.and IntKind.i64 (wrap64 (t3 : Int)) 127 = ((pop 64 x : Nat) : Int) := by rw [← IntWalk.i64_left, i64_127 t3 b3, ht]
  rw [e10, e11]
  go_ret
  exact ⟨rfl, rfl⟩
end Go.Proofs.YtgdnpmpnkbnjaaaGreatDoor
