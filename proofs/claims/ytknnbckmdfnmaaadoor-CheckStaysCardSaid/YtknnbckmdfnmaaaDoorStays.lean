/- Contract of abreastlaw11.CheckStays: true. Conditions: those of check_any; the turns lie in memory. -/
import Derived.Test.YtknnbckmdfnmaaaDoorThere
import Derived.Test.YtknnbckmdfnmaaaDoorLives
namespace Go.Proofs.YtknnbckmdfnmaaaDoor
open Go.RowKit

def encB (x : Bool) : List Value := [.bool x]
theorem RdL.bool {w : World} {B : Nat} {A : Option Addr} {l : List Bool} (h : RdL encB 1 w B A l) {k : Nat} {x : Bool} (hk : l[k]? = some x) :
    ∃ g off, A = some ⟨g, off, none⟩ ∧ g < B ∧ w.cell? ⟨g, off + k, none⟩ = some (.bool x) := by
  obtain ⟨g, off, e, hg, hc⟩ := h.at_ hk
  exact ⟨g, off, e, hg, by simpa using hc 0 _ rfl⟩
theorem shape_cnt (p : Prg) : ∀ k, k < 6 → (⟨p.threads.length, p.vars.length, p.vols.length, p.locks.length, p.bars.map (·.num)⟩ : Shp).cnt k = p.cnt k := by
  intro k hk
  have h6 : k = 0 ∨ k = 1 ∨ k = 2 ∨ k = 3 ∨ k = 4 ∨ k = 5 := by omega
  rcases h6 with rfl | rfl | rfl | rfl | rfl | rfl <;> simp [Shp.cnt, Prg.cnt, Prg.names]
theorem there_shape {p : Prg} {t : Thr} {k : Nat} {x : Ins} (h : Stay p t k x) (A : Option Addr) (c : Nat) (w : World) :
    Calls Tryd.prog 18 #[x.val, .agg #[.int .i64 (p.threads.length : Int), .int .i64 (p.vars.length : Int), .int .i64 (p.vols.length : Int), .int .i64 (p.locks.length : Int), .slice A p.bars.length c]] w fun e w' => e = .returned (.bool true) ∧ Below w.heap.size w w' := by
  have := there_any x ⟨p.threads.length, p.vars.length, p.vols.length, p.locks.length, p.bars.map (·.num)⟩ A c w h.op1 h.op2 (by rw [shape_cnt p _ (listOf_lt _)]; exact h.num)
  unfold Shp.val at this
  simp only [List.length_map] at this
  exact this
set_option maxHeartbeats 4000000 in
set_option maxRecDepth 100000 in
theorem checkStays_any (p : Prg) (th : Int) (Ab : Option Addr) (cb : Nat) (bs : List Bool) (w : World) (hf : p.Fits) (hin : p.In w w.heap.size) (hop : p.Ops) (gv : GV w.heap.size w) (hbs : RdL encB 1 w w.heap.size Ab bs) (hbl : bs.length ≤ 140737488351232) :
    Calls Tryd.prog 5 #[p.val, .int .i64 th, .slice Ab bs.length cb] w fun e w' => e = .returned (.bool true) ∧ Below w.heap.size w w' := by
  have HF := Lib.hid hf; clear hf
  have HI := Lib.hid hin; clear hin
  have HO := Lib.hid hop; clear hop
  have HG := Lib.hid gv; clear gv
  have HBS := Lib.hid hbs; clear hbs
  obtain ⟨er, pa, nu, at_, hck⟩ : ∃ er pa nu at_, p.check = ⟨er, pa, nu, at_⟩ := ⟨_, _, _, _, rfl⟩
  have HCK := Lib.hid hck; clear hck
  unfold Prg.val
  go_enter Tryd.func5, Tryd.ntmps5
  go_wp2_with fail
  generalize hW : World.alloc _ _ = W1
  have hb1 : Below w.heap.size w W1 := by subst hW; go_grown
  have hs1 : w.heap.size + 1 ≤ W1.heap.size := by subst hW; simp
  have hbox : Blk W1 w.heap.size 27 #[.slice p.Av p.vars.length p.cv, .slice p.Ao p.vols.length p.co, .slice p.Al p.locks.length p.cl, .slice p.Ab p.bars.length p.cb, .slice p.At p.threads.length p.ct] := by
    subst hW
    exact Blk.new w _ _
  clear hW
  have hkeep : ∀ W, Below W1.heap.size W1 W → p.In W W.heap.size ∧ GV W.heap.size W ∧ Below w.heap.size w W ∧ Blk W w.heap.size 27 #[.slice p.Av p.vars.length p.cv, .slice p.Ao p.vols.length p.co, .slice p.Al p.locks.length p.cl, .slice p.Ab p.bars.length p.cb, .slice p.At p.threads.length p.ct] := fun W hb =>
    have hbw := hb1.trans (hb.mono (by omega))
    ⟨(HI.out.below hbw).more hbw.size, (HG.out.below hbw).more hbw.size, hbw, hbox.below hb hbox.lt⟩
  have HK := Lib.hid hkeep; clear hkeep
  clear hbox hb1 hs1
  have k1 := HK.out W1 (Below.refl _ _)
  refine (lives_any W1 k1.2.1).mono ?_
  rintro e w2 ⟨rfl, g2⟩
  have k2 := HK.out w2 g2
  have d0 : w2.cell? ⟨w.heap.size, 0, none⟩ = some (.slice p.Av p.vars.length p.cv) := k2.2.2.2.cell 0
  have d1 : w2.cell? ⟨w.heap.size, 1, none⟩ = some (.slice p.Ao p.vols.length p.co) := k2.2.2.2.cell 1
  have d2 : w2.cell? ⟨w.heap.size, 2, none⟩ = some (.slice p.Al p.locks.length p.cl) := k2.2.2.2.cell 2
  have d3 : w2.cell? ⟨w.heap.size, 3, none⟩ = some (.slice p.Ab p.bars.length p.cb) := k2.2.2.2.cell 3
  have d4 : w2.cell? ⟨w.heap.size, 4, none⟩ = some (.slice p.At p.threads.length p.ct) := k2.2.2.2.cell 4
  have hlx : w.heap.size < w2.heap.size := k2.2.2.2.lt
  go_wp2_with fail
  refine (check_any p w2 HF.out k2.1 HO.out k2.2.1).mono ?_
  rintro e w3 ⟨rfl, g3'⟩
  rw [HCK.out]
  unfold Spot.val spotV
  have g3 := g2.trans (g3'.mono g2.size)
  clear d0 d1 d2 d3 d4 hlx
  have k3 := HK.out w3 g3
  have d0 : w3.cell? ⟨w.heap.size, 0, none⟩ = some (.slice p.Av p.vars.length p.cv) := k3.2.2.2.cell 0
  have d1 : w3.cell? ⟨w.heap.size, 1, none⟩ = some (.slice p.Ao p.vols.length p.co) := k3.2.2.2.cell 1
  have d2 : w3.cell? ⟨w.heap.size, 2, none⟩ = some (.slice p.Al p.locks.length p.cl) := k3.2.2.2.cell 2
  have d3 : w3.cell? ⟨w.heap.size, 3, none⟩ = some (.slice p.Ab p.bars.length p.cb) := k3.2.2.2.cell 3
  have d4 : w3.cell? ⟨w.heap.size, 4, none⟩ = some (.slice p.At p.threads.length p.ct) := k3.2.2.2.cell 4
  have hlx : w.heap.size < w3.heap.size := k3.2.2.2.lt
  have hbx := k3.2.2.1
  by_cases her : er = 0
  · subst her
    have h3 : th < 0 ∨ (0 ≤ th ∧ (p.threads.length : Int) ≤ th) ∨ ∃ k : Nat, th = (k : Int) ∧ k < p.threads.length := by
      rcases Int.lt_or_le th 0 with h | h
      · exact .inl h
      · rcases Int.lt_or_le th p.threads.length with h' | h'
        · exact .inr (.inr ⟨th.toNat, by omega, by omega⟩)
        · exact .inr (.inl ⟨h, h'⟩)
    rcases h3 with h3 | ⟨h3, h4⟩ | ⟨k, rfl, hk⟩
    · go_wp2_with fail
      go_ret
      exact ⟨rfl, by repeat' (first | (with_reducible exact Below.refl _ _) | (with_reducible assumption) | (with_reducible refine below_drewN ?_ _) | (with_reducible refine Below.drew ?_) | (with_reducible refine Below.alloc ?_ ?_ _) | (with_reducible refine Below.setCell ?_ ?_ _) | go_size)⟩
    · go_wp2_with fail
      go_ret
      exact ⟨rfl, by repeat' (first | (with_reducible exact Below.refl _ _) | (with_reducible assumption) | (with_reducible refine below_drewN ?_ _) | (with_reducible refine Below.drew ?_) | (with_reducible refine Below.alloc ?_ ?_ _) | (with_reducible refine Below.setCell ?_ ?_ _) | go_size)⟩
    · obtain ⟨t, ht⟩ := get_some hk
      obtain ⟨g, off, hA, hgB, r0, r1, r2⟩ := (k3.1.threads).thr ht
      have HT := Lib.hid ht; clear ht
      have HA := Lib.hid hA
      rw [hA] at d4
      clear hA
      go_wp2_with fail
      rw [show (some ⟨g, off, none⟩ : Option Addr) = p.At from HA.out.symm]
      generalize hW4 : World.alloc _ _ = W4
      have g4 : Below W1.heap.size W1 W4 := by subst hW4; exact (g3.alloc g3.size _).alloc (by have := g3.size; simp; omega) _
      have htb : Blk W4 (w3.heap.size + 1) 42 #[.string t.name, .slice t.Ac t.code.length t.cc, .slice t.Ap t.places.length t.cp] := by
        subst hW4
        exact (Blk.new _ _ _).moved (by simp)
      clear hW4 d0 d1 d2 d3 d4 hlx r0 r1 r2
      have k4 := HK.out W4 g4
      have hsh : p.shape = ⟨p.threads.length, p.vars.length, p.vols.length, p.locks.length, p.bars.map (·.num)⟩ := by
        unfold Prg.shape
        rw [HCK.out, if_pos rfl]
      have HST : Hid (∀ (k : Nat) (x : Ins), t.code[k]? = some x → Stay p t k x) := fun k x hx => stay_law (by rw [HCK.out]) (get_mem HT.out) hx
      have hlen : Hid (t.places.length = t.code.length ∧ 1 ≤ t.code.length) := by
        obtain ⟨_, _, _, h3⟩ := check_good (p := p) (by rw [HCK.out])
        obtain ⟨hc1, _, hz⟩ := scanT_none h3 t (get_mem HT.out)
        exact ⟨(threadR_zero hz).1, hc1⟩
      refine (shape_any p W4 HF.out k4.1 HO.out k4.2.1).mono ?_
      rintro e w5 ⟨v, rfl, g5', hown⟩
      obtain ⟨A5, c5, rfl⟩ := own_form hown
      clear hown
      rw [hsh]
      unfold Shp.val
      dsimp only
      have g5 := g4.trans (g5'.mono g4.size)
      have htb5 := htb.below g5' htb.lt
      clear htb
      have k5 := HK.out w5 g5
      have hbx5 := k5.2.2.1
      have hbl2 : bs.length ≤ 140737488351232 := hbl
      go_wp2_with fail
      generalize hW6 : World.alloc _ _ = W6
      have g6 : Below w5.heap.size w5 W6 := by subst hW6; go_grown
      have hsb : Blk W6 w5.heap.size 52 #[.int .i64 (p.threads.length : Int), .int .i64 (p.vars.length : Int), .int .i64 (p.vols.length : Int), .int .i64 (p.locks.length : Int), .slice A5 p.bars.length c5] := by
        subst hW6
        exact Blk.new _ _ _
      have hs6 : W6.heap.size = w5.heap.size + 1 := by subst hW6; simp
      clear hW6
      have htb6 := htb5.below g6 htb5.lt
      have hbx6 := hbx5.trans (g6.mono hbx5.size)
      have htl := htb5.lt
      have HSB := Lib.hid hsb
      have HTB := Lib.hid htb6
      clear hsb htb5 htb6 k4 k5 g3 g4 g5 g5' g6 hbx hbx5 g2 g3' k1 k2 k3
      have h40 : t.code.length * 40 ≤ 140737488355328 := (HF.out.fthreads _ (get_mem HT.out)).code
      have hdec : decide (p.threads.length ≤ k) = false := by simp; omega
      simp only [hdec, Bool.or_false, List.length_map]
      go_loopw [11, 12] (fun a i wr => ∃ (at1 i1 : Nat), i1 ≤ bs.length ∧ i = .int .i64 i1 ∧ a = .int .i64 at1 ∧ at1 < t.code.length ∧ Below W6.heap.size W6 wr) (fun a i _ => bs.length - (intOf i).toNat)
      case atStart => exact ⟨0, 0, by omega, rfl, rfl, by have := hlen.out.2; omega, Below.refl _ _⟩
      case round =>
        obtain ⟨at1, i1, hi, rfl, rfl, hat, hb7⟩ := hrel
        have hw7 := hb7.size
        obtain ⟨w7, rfl⟩ : ∃ x : World, x = wr := ⟨_, rfl⟩
        have hbx7 := hbx6.trans (hb7.mono hbx6.size)
        have htb7 := HTB.out.below hb7 (by omega)
        have hsb7 := HSB.out.below hb7 (by omega)
        have t1 : w7.cell? ⟨w3.heap.size + 1, 1, none⟩ = some (.slice t.Ac t.code.length t.cc) := htb7.cell 1
        have t2 : w7.cell? ⟨w3.heap.size + 1, 2, none⟩ = some (.slice t.Ap t.places.length t.cp) := htb7.cell 2
        have s0 : w7.cell? ⟨w5.heap.size, 0, none⟩ = some (.int .i64 (p.threads.length : Int)) := hsb7.cell 0
        have s1 : w7.cell? ⟨w5.heap.size, 1, none⟩ = some (.int .i64 (p.vars.length : Int)) := hsb7.cell 1
        have s2 : w7.cell? ⟨w5.heap.size, 2, none⟩ = some (.int .i64 (p.vols.length : Int)) := hsb7.cell 2
        have s3 : w7.cell? ⟨w5.heap.size, 3, none⟩ = some (.int .i64 (p.locks.length : Int)) := hsb7.cell 3
        have s4 : w7.cell? ⟨w5.heap.size, 4, none⟩ = some (.slice A5 p.bars.length c5) := hsb7.cell 4
        have hl7 : w5.heap.size < w7.heap.size := by omega
        have hl8 : w3.heap.size + 1 < w7.heap.size := htb7.lt
        have hpl : (at1 : Int) < t.places.length := by have := hlen.out.1; omega
        have hat' : (at1 : Int) < t.code.length := by omega
        clear htb7 hsb7
        by_cases hil : i1 < bs.length
        · obtain ⟨b, hb⟩ := get_some hil
          obtain ⟨gb, ob, hAb, hgb, q0⟩ := (HBS.out.below hbx7).bool hb
          obtain ⟨x, hx⟩ := get_some hat
          have HS := Lib.hid (HST.out at1 x hx)
          obtain ⟨gx, ox, hAx, hgx, i0, i1', i2, i3, i4⟩ := ((HI.out.thr t (get_mem HT.out)).below hbx7).code.ins hx
          clear hx hb
          have HAX := Lib.hid hAx
          rw [hAx] at t1
          rw [hAb]
          clear hAx hAb
          have ra := HS.out.a1
          have ra' := HS.out.a2
          have rb := HS.out.b1
          have rb' := HS.out.b2
          have rc := HS.out.c1
          have rc' := HS.out.c2
          have hwz := hbx7.size
          have hb9 : Below W6.heap.size W6 (w7.alloc (.cells #[.int .i64 x.op, .int .i64 x.a, .int .i64 x.b, .int .i64 x.c, .int .i64 x.n] 45)) := hb7.alloc hw7 _
          have HB9 := Lib.hid hb9
          clear hb9
          have hop : ((x.op == 20) = true) ∨ ((x.op == 20) = false ∧ (x.op == 8) = true) ∨ ((x.op == 20) = false ∧ (x.op == 8) = false ∧ (x.op == 9) = true) ∨ ((x.op == 20) = false ∧ (x.op == 8) = false ∧ (x.op == 9) = false) := by
            cases (x.op == 20) <;> cases (x.op == 8) <;> cases (x.op == 9) <;> simp
          rcases hop with o1 | ⟨o1, o2⟩ | ⟨o1, o2, o3⟩ | ⟨o1, o2, o3⟩
          · go_wp2_with (go_at_call 18; refine (there_shape HS.out A5 c5 _).mono ?_; rintro e w8 ⟨rfl, hb8⟩; have hxb := (Blk.new w7 45 #[.int .i64 x.op, .int .i64 x.a, .int .i64 x.b, .int .i64 x.c, .int .i64 x.n]).below hb8 (by simp); have hb10 : Below w7.heap.size w7 w8 := ((Below.refl _ _).alloc (Nat.le_refl _) _).trans (hb8.mono (by simp)); have y0 : w8.cell? ⟨w7.heap.size, 0, none⟩ = some (.int .i64 x.op) := hxb.cell 0; have y4 : w8.cell? ⟨w7.heap.size, 4, none⟩ = some (.int .i64 x.n) := hxb.cell 4; have q1 : w8.cell? ⟨gb, ob + i1, none⟩ = some (.bool _) := (hb10.cell (p := ⟨gb, ob + i1, none⟩) (by show gb < _; omega)).trans q0)
            go_ret
            exact ⟨rfl, hbx7.trans (((Below.refl _ _).alloc (Nat.le_refl _) _).trans (hb8.mono (by simp)) |>.mono hbx7.size)⟩
          · have hgo := HS.out.goes (.inl (by simpa using o2))
            go_wp2_with (go_at_call 18; refine (there_shape HS.out A5 c5 _).mono ?_; rintro e w8 ⟨rfl, hb8⟩; have hxb := (Blk.new w7 45 #[.int .i64 x.op, .int .i64 x.a, .int .i64 x.b, .int .i64 x.c, .int .i64 x.n]).below hb8 (by simp); have hb10 : Below w7.heap.size w7 w8 := ((Below.refl _ _).alloc (Nat.le_refl _) _).trans (hb8.mono (by simp)); have y0 : w8.cell? ⟨w7.heap.size, 0, none⟩ = some (.int .i64 x.op) := hxb.cell 0; have y4 : w8.cell? ⟨w7.heap.size, 4, none⟩ = some (.int .i64 x.n) := hxb.cell 4; have q1 : w8.cell? ⟨gb, ob + i1, none⟩ = some (.bool _) := (hb10.cell (p := ⟨gb, ob + i1, none⟩) (by show gb < _; omega)).trans q0)
            go_roundw
            case rel => exact ⟨x.n.toNat, i1 + 1, by omega, by go_num, by rw [Int.toNat_of_nonneg hgo.1], by omega, HB9.out.trans (hb8.mono HB9.out.size)⟩
            case measure => simp [intOf]; omega
          · have hgo := HS.out.goes (.inr (by simpa using o3))
            have HNX := Lib.hid (HS.out.next_ (by simpa using o2) (by simpa using o1))
            cases b with
            | true =>
              go_wp2_with (go_at_call 18; refine (there_shape HS.out A5 c5 _).mono ?_; rintro e w8 ⟨rfl, hb8⟩; have hxb := (Blk.new w7 45 #[.int .i64 x.op, .int .i64 x.a, .int .i64 x.b, .int .i64 x.c, .int .i64 x.n]).below hb8 (by simp); have hb10 : Below w7.heap.size w7 w8 := ((Below.refl _ _).alloc (Nat.le_refl _) _).trans (hb8.mono (by simp)); have y0 : w8.cell? ⟨w7.heap.size, 0, none⟩ = some (.int .i64 x.op) := hxb.cell 0; have y4 : w8.cell? ⟨w7.heap.size, 4, none⟩ = some (.int .i64 x.n) := hxb.cell 4; have q1 : w8.cell? ⟨gb, ob + i1, none⟩ = some (.bool _) := (hb10.cell (p := ⟨gb, ob + i1, none⟩) (by show gb < _; omega)).trans q0)
              go_roundw
              case rel => exact ⟨x.n.toNat, i1 + 1, by omega, by go_num, by rw [Int.toNat_of_nonneg hgo.1], by omega, HB9.out.trans (hb8.mono HB9.out.size)⟩
              case measure => simp [intOf]; omega
            | false =>
              go_wp2_with (go_at_call 18; refine (there_shape HS.out A5 c5 _).mono ?_; rintro e w8 ⟨rfl, hb8⟩; have hxb := (Blk.new w7 45 #[.int .i64 x.op, .int .i64 x.a, .int .i64 x.b, .int .i64 x.c, .int .i64 x.n]).below hb8 (by simp); have hb10 : Below w7.heap.size w7 w8 := ((Below.refl _ _).alloc (Nat.le_refl _) _).trans (hb8.mono (by simp)); have y0 : w8.cell? ⟨w7.heap.size, 0, none⟩ = some (.int .i64 x.op) := hxb.cell 0; have y4 : w8.cell? ⟨w7.heap.size, 4, none⟩ = some (.int .i64 x.n) := hxb.cell 4; have q1 : w8.cell? ⟨gb, ob + i1, none⟩ = some (.bool _) := (hb10.cell (p := ⟨gb, ob + i1, none⟩) (by show gb < _; omega)).trans q0)
              go_roundw
              case rel => exact ⟨at1 + 1, i1 + 1, by omega, by go_num, by go_num, HNX.out, HB9.out.trans (hb8.mono HB9.out.size)⟩
              case measure => simp [intOf]; omega
          · have HNX := Lib.hid (HS.out.next_ (by simpa using o2) (by simpa using o1))
            go_wp2_with (go_at_call 18; refine (there_shape HS.out A5 c5 _).mono ?_; rintro e w8 ⟨rfl, hb8⟩; have hxb := (Blk.new w7 45 #[.int .i64 x.op, .int .i64 x.a, .int .i64 x.b, .int .i64 x.c, .int .i64 x.n]).below hb8 (by simp); have hb10 : Below w7.heap.size w7 w8 := ((Below.refl _ _).alloc (Nat.le_refl _) _).trans (hb8.mono (by simp)); have y0 : w8.cell? ⟨w7.heap.size, 0, none⟩ = some (.int .i64 x.op) := hxb.cell 0; have y4 : w8.cell? ⟨w7.heap.size, 4, none⟩ = some (.int .i64 x.n) := hxb.cell 4; have q1 : w8.cell? ⟨gb, ob + i1, none⟩ = some (.bool _) := (hb10.cell (p := ⟨gb, ob + i1, none⟩) (by show gb < _; omega)).trans q0)
            go_roundw
            case rel => exact ⟨at1 + 1, i1 + 1, by omega, by go_num, by go_num, HNX.out, HB9.out.trans (hb8.mono HB9.out.size)⟩
            case measure => simp [intOf]; omega
        · obtain rfl : i1 = bs.length := by omega
          clear hi hil
          go_wp2_with fail
          go_ret
          exact ⟨ret_bool (by first | (simp; done) | (simp; omega)), hbx7⟩
  · have hn : (er != 0) = true := by rw [bne_iff_ne]; exact her
    clear her
    go_wp2_with fail
    go_ret
    exact ⟨rfl, by repeat' (first | (with_reducible exact Below.refl _ _) | (with_reducible assumption) | (with_reducible refine below_drewN ?_ _) | (with_reducible refine Below.drew ?_) | (with_reducible refine Below.alloc ?_ ?_ _) | (with_reducible refine Below.setCell ?_ ?_ _) | go_size)⟩
end Go.Proofs.YtknnbckmdfnmaaaDoor
