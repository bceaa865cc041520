/- Contracts of abreastref11.Named and abreastref11.field. Condition: none but that field's counts are those of the six lists. -/
import Derived.Test.YtknnbckmdfnmaaaDoorField
namespace Go.Proofs.YtknnbckmdfnmaaaDoor
open Go.RowKit

def namedN (op : Int) : Int := if op = 1 then 1 else if op = 8 ∨ op = 9 then 2 else if listOf op = 0 then 0 else 10 + (listOf op : Int)
theorem ret_two {a a' b b' : Int} (h1 : a = a') (h2 : b = b') : Ending.returned (.tuple #[.int .i64 a, .int .i64 b]) = .returned (.tuple #[.int .i64 a', .int .i64 b']) := by rw [h1, h2]
set_option maxHeartbeats 1000000 in
theorem named_any (op : Int) (w : World) : Calls Tryd.prog 51 #[.int .i64 op] w fun e w' => e = .returned (.tuple #[.int .i64 (regsN op), .int .i64 (namedN op)]) ∧ w = w' := by
  go_enter Tryd.func51, Tryd.ntmps51
  go_wp2
  all_goals (go_ret2; refine ⟨ret_two ?_ ?_, rfl⟩)
  all_goals (simp at *; first | (unfold regsN; simp [*]; done) | (unfold namedN listOf; simp [*]; done))

def cntV (f : Nat → Nat) : Value := .agg #[.int .i64 (f 0 : Int), .int .i64 (f 1 : Int), .int .i64 (f 2 : Int), .int .i64 (f 3 : Int), .int .i64 (f 4 : Int), .int .i64 (f 5 : Int)]
theorem regs_cell (x : Ins) {w : World} {g : Nat} {t : TypeId} (h : Blk w g t #[.int .i64 x.a, .int .i64 x.b, .int .i64 x.c]) (k : Nat) (hk : k < 3) : w.cell? ⟨g, k, none⟩ = some (.int .i64 (x.reg k)) := by
  rw [h.cell]
  have h3 : k = 0 ∨ k = 1 ∨ k = 2 := by omega
  rcases h3 with rfl | rfl | rfl <;> rfl
set_option maxHeartbeats 2000000 in
set_option maxRecDepth 100000 in
theorem refField_any (x : Ins) (code : Int) (cnt : Nat → Nat) (w : World) :
    Calls Tryd.prog 40 #[x.val, .int .i64 code, cntV cnt] w fun e w' => e = .returned (.bool (fieldB x code cnt)) ∧ Below w.heap.size w w' := by
  unfold Ins.val cntV
  go_enter Tryd.func40, Tryd.ntmps40
  go_wp2_with (go_at_call 51; refine (named_any _ _).mono ?_; rintro e w' ⟨rfl, rfl⟩)
  generalize hW : World.alloc _ _ = W1
  have hb1 : Below w.heap.size w W1 := by subst hW; go_grown
  have q4 : W1.cell? ⟨w.heap.size, 4, none⟩ = some (.int .i64 x.n) := by subst hW; simp [go_sem]
  have c1 : W1.cell? ⟨w.heap.size + 1, 1, none⟩ = some (.int .i64 (cnt 1 : Int)) := by subst hW; simp [go_sem]
  have c2 : W1.cell? ⟨w.heap.size + 1, 2, none⟩ = some (.int .i64 (cnt 2 : Int)) := by subst hW; simp [go_sem]
  have c3 : W1.cell? ⟨w.heap.size + 1, 3, none⟩ = some (.int .i64 (cnt 3 : Int)) := by subst hW; simp [go_sem]
  have c4 : W1.cell? ⟨w.heap.size + 1, 4, none⟩ = some (.int .i64 (cnt 4 : Int)) := by subst hW; simp [go_sem]
  have c5 : W1.cell? ⟨w.heap.size + 1, 5, none⟩ = some (.int .i64 (cnt 5 : Int)) := by subst hW; simp [go_sem]
  have hbl : Hid (Blk W1 (w.heap.size + 1 + 1) 3 #[.int .i64 x.a, .int .i64 x.b, .int .i64 x.c]) := by
    subst hW
    exact (Blk.new _ _ _).moved (by simp)
  clear hW
  go_loopw [10] (fun i wr => ∃ k : Nat, k ≤ 3 ∧ i = .int .i64 k ∧ (∀ j : Nat, j < k → regOk j (x.reg j) (regsN x.op)) ∧ wr = W1) (fun i _ => 3 - (intOf i).toNat)
  case atStart => exact ⟨0, by omega, rfl, by omega, rfl⟩
  case round =>
    obtain ⟨k, hk, rfl, hok, rfl⟩ := hrel
    have HK := Lib.hid hok; clear hok
    by_cases hlt : k < 3
    · have hidx := regs_cell x hbl.out k hlt
      clear c1 c2 c3 c4 c5 q4
      by_cases hr : regOk k (x.reg k) (regsN x.op)
      · have HR := Lib.hid hr
        have r1 : 0 ≤ x.reg k := hr.1
        have r2 : x.reg k ≤ 15 := hr.2.1
        have r3 : (k : Int) < regsN x.op ∨ regsN x.op ≤ (k : Int) ∧ x.reg k = 0 := by
          rcases Int.lt_or_le (k : Int) (regsN x.op) with h | h
          · exact .inl h
          · exact .inr ⟨h, hr.2.2 h⟩
        clear hr
        have hnext : Hid (∀ j : Nat, j < k + 1 → regOk j (x.reg j) (regsN x.op)) := by
          intro j hj
          by_cases e : j = k
          · subst e; exact HR.out
          · exact HK.out j (by omega)
        rcases r3 with h3 | ⟨h3, h4⟩
        · have h3' : decide (regsN x.op ≤ (k : Int)) = false := by simp; omega
          go_wp2_with fail
          go_roundw
          case rel => exact ⟨k + 1, by omega, by go_num, hnext.out, by trivial⟩
          case measure => simp [intOf]; omega
        · have h4' : (x.reg k != 0) = false := by simp [h4]
          clear h4
          go_wp2_with fail
          go_roundw
          case rel => exact ⟨k + 1, by omega, by go_num, hnext.out, by trivial⟩
          case measure => simp [intOf]; omega
      · have hbad := Lib.hid (fieldB_regs (code := code) (cnt := cnt) k hlt hr)
        have r3 : regsN x.op ≤ (k : Int) ∧ (x.reg k != 0) = true ∨ ((regsN x.op ≤ (k : Int) ∧ (x.reg k != 0) = false ∨ (k : Int) < regsN x.op)) ∧ (x.reg k < 0 ∨ 0 ≤ x.reg k ∧ 15 < x.reg k) := by
          unfold regOk at hr
          rcases Int.lt_or_le (k : Int) (regsN x.op) with h | h
          · exact .inr ⟨.inr h, by omega⟩
          · by_cases h0 : x.reg k = 0
            · exact .inr ⟨.inl ⟨h, by simp [h0]⟩, by omega⟩
            · exact .inl ⟨h, by simp [h0]⟩
        clear hr
        rcases r3 with ⟨h3, h4⟩ | ⟨⟨h3, h4⟩ | h3, h5 | ⟨h5, h6⟩⟩
        all_goals
          go_wp2_with fail
          go_ret
          exact ⟨ret_bool hbad.out.symm, hb1⟩
    · obtain rfl : k = 3 := by omega
      have HR := Lib.hid (regsOk_of HK.out)
      clear HK hk hlt hbl
      by_cases h1 : x.op = 1
      · have hn : namedN x.op = 1 := by unfold namedN; rw [if_pos h1]
        have hfin := Lib.hid (fieldB_one (code := code) (cnt := cnt) HR.out h1)
        clear h1
        go_wp2_with fail
        go_ret
        exact ⟨ret_bool hfin.out.symm, hb1⟩
      by_cases h8 : x.op = 8 ∨ x.op = 9
      · have hn : namedN x.op = 2 := by unfold namedN; rw [if_neg h1, if_pos h8]
        have hfin := Lib.hid (fieldB_in (code := code) (cnt := cnt) HR.out h8)
        clear h1 h8
        by_cases hn0 : 0 ≤ x.n
        · go_wp2_with fail
          go_ret
          refine ⟨ret_bool ?_, hb1⟩
          rw [hfin.out]
          unfold betw
          simp [hn0]
        · have hd : decide (0 ≤ x.n) = false := by simpa using hn0
          have HB := Lib.hid (betw_neg (m := code) hn0)
          clear hn0
          go_wp2_with fail
          go_ret
          refine ⟨ret_bool ?_, hb1⟩
          rw [hfin.out, HB.out]
      by_cases hl : listOf x.op = 0
      · have hn : namedN x.op = 0 := by unfold namedN; rw [if_neg h1, if_neg h8, if_pos hl]
        have hfin : Hid (fieldB x code cnt = decide (x.n = 0)) := by
          show _ = _
          unfold fieldB numOk
          rw [if_neg h1, if_neg h8, if_pos hl]
          simp only [HR.out, true_and]
        clear h1 h8 hl
        go_wp2_with fail
        go_ret
        refine ⟨ret_bool ?_, hb1⟩
        rw [hfin.out]
        exact bool_iff (by simp)
      · have hfin := Lib.hid (fieldB_of (code := code) (cnt := cnt) HR.out ⟨h1, by omega, by omega, hl⟩)
        have hn0 : namedN x.op = 10 + (listOf x.op : Int) := by unfold namedN; rw [if_neg h1, if_neg h8, if_neg hl]
        have h6 := listOf_lt x.op
        clear h1 h8
        obtain ⟨L, hL⟩ : ∃ L, listOf x.op = L := ⟨_, rfl⟩
        rw [hL] at hfin hn0 hl h6
        clear hL
        have hk5 : L = 1 ∨ L = 2 ∨ L = 3 ∨ L = 4 ∨ L = 5 := by omega
        clear hl h6
        rcases hk5 with rfl | rfl | rfl | rfl | rfl
        all_goals
          simp at hn0
          by_cases hn1 : 0 ≤ x.n
          · go_wp2_with fail
            go_quiet (fail)
            go_wp2_with fail
            go_ret
            refine ⟨ret_bool ?_, by first | exact below_drewN hb1 _ | exact hb1⟩
            rw [hfin.out]
            unfold betw
            simp [hn1]
          · have hd : decide (0 ≤ x.n) = false := by simpa using hn1
            have HB := Lib.hid (fun m => betw_neg (m := m) hn1)
            clear hn1
            go_wp2_with fail
            go_quiet (fail)
            go_wp2_with fail
            go_ret
            refine ⟨ret_bool ?_, by first | exact below_drewN hb1 _ | exact hb1⟩
            rw [hfin.out, HB.out]
end Go.Proofs.YtknnbckmdfnmaaaDoor
