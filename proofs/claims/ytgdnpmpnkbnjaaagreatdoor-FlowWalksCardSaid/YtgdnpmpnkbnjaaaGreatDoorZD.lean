/- Words for a map from names to numbers that the call itself makes; the six lists of names behind a pointer; what the document's rule on names says of them. No condition. Contract of check.called: the first name that is none or that was there before. Conditions: fewer than 2^16 things a list, names not too long, the package variables of strconv (GV). What check.field asks of an instruction's fields, and the contract of check.registers. (check.field: whether an instruction's fields may be. The contract of check.field itself is in a later text.) No condition. -/
import Derived.Test.YtgdnpmpnkbnjaaaGreatDoorZA
import Derived.Test.YtgdnpmpnkbnjaaaGreatDoorZB
import Derived.Maps.OwnOps
import Derived.Maps.Views
import Derived.Maps.Keyed
namespace Go.Proofs.YtgdnpmpnkbnjaaaGreatDoor
open Go.RowKit Go.WideMaps Go.Maps

theorem klaw : Keyed Tryz.prog 9 := string_keyed Tryz.underlying9
theorem zeroInt (w : World) : (zeroValue 3).run Tryz.prog w = .ok (.int .i64 0) w := by kernel_rfl
/-- block b is a map of at most n entries, from names to numbers -/
def CntMap (w : World) (b n : Nat) (f : List UInt8 → Int) : Prop :=
  ∃ D : DataW Unit, IsMap D ∧ w.ownsMap Tryz.prog 9 (plainElem Tryz.prog 3) b n D ∧ ∀ l, D.atKey (.string l) (.lit (.int .i64 0)) = .lit (.int .i64 (f l))
theorem keyS {s : ByteArray} (hs : s.size ≤ 140737488355328) : keyOf Tryz.prog 9 (.string s) = some (.string s.data.toList) :=
  keyOf_string_mk Tryz.underlying9 (by simp only [maxLen]; omega)
theorem CntMap.made (w : World) : CntMap (w.alloc (.map #[] 0)) w.heap.size 0 (fun _ => 0) :=
  ⟨.map [], ⟨[], rfl⟩, World.ownsMap_made _ _ _ _, fun _ => rfl⟩
theorem CntMap.look {w : World} {b n : Nat} {f : List UInt8 → Int} (h : CntMap w b n f) {s : ByteArray} (hs : s.size ≤ 140737488355328) :
    (Instr.lookup 117 (.map (some b)) (.string s) false).run Tryz.prog w = .ok (.int .i64 (f s.data.toList)) w := by
  obtain ⟨D, hD, hown, hat⟩ := h
  obtain ⟨c, hrun, hc, _⟩ := hown.lookup_int klaw Tryz.underlying117 Tryz.underlying3 (zeroInt _) (keyS hs)
  have e := (hat s.data.toList).symm.trans hc
  have e' : f s.data.toList = c := by simpa using e
  rw [hrun, e']
theorem CntMap.grown {w w' : World} {b n : Nat} {f : List UInt8 → Int} {row : Option Nat} (h : CntMap w b n f) (hg : w.grownBy w' row) (hne : some b ≠ row) : CntMap w' b n f := by
  obtain ⟨D, hD, ⟨es, clock, hb, hr⟩, hat⟩ := h
  have hlt : b < w.heap.size := by
    rcases Nat.lt_or_ge b w.heap.size with hl | hl
    · exact hl
    · rw [Array.getElem?_eq_none hl] at hb; cases hb
  exact ⟨D, hD, ⟨es, clock, (hg.block b hlt hne).trans hb, hr⟩, hat⟩
theorem CntMap.lt {w : World} {b n : Nat} {f : List UInt8 → Int} (h : CntMap w b n f) : b < w.heap.size := by
  obtain ⟨D, hD, ⟨es, clock, hb, hr⟩, hat⟩ := h
  rcases Nat.lt_or_ge b w.heap.size with hl | hl
  · exact hl
  · rw [Array.getElem?_eq_none hl] at hb; cases hb
theorem wpList_cnt {ops : Array Oper} {rest : List Oper} {o : Oper} {a : Act} {Q : Exit → Act → World → Prop} (w : World) (hg : o.guard = none) (m x v : Operand) (hop : o.op = Op.mapUpdate 117 m x v)
    (b n : Nat) (f : List UInt8 → Int) (hm : a.eval m = .map (some b)) (h : CntMap w b n f) (hn : n < maxLen) (s : ByteArray) (c : Int) (hs : s.size ≤ 140737488355328) (hx : a.eval x = .string s) (hv : a.eval v = .int .i64 c) (hc : (Lit.int .i64 c).wf = true)
    (hK : ∀ w', CntMap w' b (n + 1) (fun l => if l = s.data.toList then c else f l) → w.grownBy w' (some b) → wpList Tryz.prog ops Q rest (a.put o.dst undef) w') : wpList Tryz.prog ops Q (o :: rest) a w := by
  obtain ⟨D, hD, hown, hat⟩ := h
  refine wpList_mapUpdate_own w hg m x v _ hop _ _ klaw Tryz.underlying117 _ b n D hm hown hn _ _ _ hx hv (keyS hs) _ [] (plainElem_int Tryz.underlying3 hc) ?_
  intro w' h1 h2
  refine hK w' ⟨_, ?_, h1, fun l => ?_⟩ h2
  · first | exact hD.put _ _ | exact IsMap.put hD _ _ | exact isMap_put hD
  · dsimp only
    by_cases e : l = s.data.toList
    · subst e
      rw [if_pos rfl]
      exact atKey_put_same hD (by first | exact trivial | exact ⟨_, rfl⟩ | simp [WideAt.IsKeyLit]) _ _
    · rw [if_neg e]
      exact (atKey_put_other (fun h => e (by injection h)) _ _).trans (hat l)

/-- six lists of names (the first has none) behind a pointer -/
structure AllIn (w : World) (B ga : Nat) (A : Nat → Option Addr) (c : Nat → Nat) (N : Nat → List ByteArray) : Prop where
  cell : ∀ k, k < 6 → w.cell? ⟨ga, k, none⟩ = some (.slice (A k) (N k).length (c k))
  rd : ∀ k, k < 6 → RdL encS 1 w B (A k) (N k)
  lt : ga < B
theorem AllIn.only {w w' : World} {B ga g : Nat} {A : Nat → Option Addr} {c : Nat → Nat} {N : Nat → List ByteArray} (h : AllIn w B ga A c N) (hg : w.grownBy w' (some g)) (hB : B ≤ g) (hB' : B ≤ w.heap.size) : AllIn w' B ga A c N :=
  ⟨fun k hk => by
    rw [← h.cell k hk]
    exact World.cell?_of_block (hg.block ga (by have := h.lt; omega) (fun e => by injection e with e; have := h.lt; omega)), fun k hk => (h.rd k hk).only hg hB hB', h.lt⟩
theorem AllIn.below {w w' : World} {B ga : Nat} {A : Nat → Option Addr} {c : Nat → Nat} {N : Nat → List ByteArray} (h : AllIn w B ga A c N) (hb : Below B w w') : AllIn w' B ga A c N :=
  ⟨fun k hk => by
    rw [← h.cell k hk]
    exact hb.cell (p := ⟨ga, k, none⟩) h.lt, fun k hk => (h.rd k hk).below hb, h.lt⟩

def scanL (part : Nat) : List ByteArray → Nat → List (List UInt8) → Option (Int × Nat × Nat) × List (List UInt8)
  | [], _, seen => (none, seen)
  | s :: r, i, seen => if nameB s = false then (some (111, part, i), seen) else if s.data.toList ∈ seen then (some (112, part, i), seen) else scanL part r (i + 1) (s.data.toList :: seen)
def scanP (N : Nat → List ByteArray) : Nat → Nat → List (List UInt8) → Option (Int × Nat × Nat)
  | 0, _, _ => none
  | m + 1, part, seen =>
    match scanL part (N part) 0 seen with
    | (some e, _) => some e
    | (none, seen') => scanP N m (part + 1) seen'
def scanV : Option (Int × Nat × Nat) → Value
  | none => spotV 0 0 0 0
  | some (e, p, i) => spotV e p i 0
def inSeen (seen : List (List UInt8)) (l : List UInt8) : Int := if l ∈ seen then 1 else 0
end Go.Proofs.YtgdnpmpnkbnjaaaGreatDoor
namespace Go.Proofs.YtgdnpmpnkbnjaaaGreatDoor
open Go.RowKit Go.WideMaps Go.Maps

theorem size_spot : (Tryz.prog.info? 76).map (·.size) = some 3 := by kernel_rfl
theorem scan_ok {part i : Nat} {s : ByteArray} {r : List ByteArray} {seen : List (List UInt8)} (h1 : nameB s = true) (h2 : s.data.toList ∉ seen) : scanL part (s :: r) i seen = scanL part r (i + 1) (s.data.toList :: seen) := by
  simp [scanL, h1, h2]
theorem scan_bad {part i : Nat} {s : ByteArray} {r : List ByteArray} {seen : List (List UInt8)} (h1 : nameB s = false) : scanL part (s :: r) i seen = (some (111, part, i), seen) := by
  simp [scanL, h1]
theorem scan_twice {part i : Nat} {s : ByteArray} {r : List ByteArray} {seen : List (List UInt8)} (h1 : nameB s = true) (h2 : s.data.toList ∈ seen) : scanL part (s :: r) i seen = (some (112, part, i), seen) := by
  simp [scanL, h1, h2]
theorem inSeen_cons (seen : List (List UInt8)) (x : List UInt8) : (fun l => if l = x then inSeen seen x + 1 else inSeen seen l) = if x ∈ seen then (fun l => if l = x then 2 else inSeen seen l) else inSeen (x :: seen) := by
  funext l
  by_cases hx : x ∈ seen
  · simp [hx, inSeen]
  · by_cases e : l = x
    · subst e; simp [hx, inSeen]
    · simp [hx, inSeen, e]

theorem drop_at {α : Type} {l : List α} {i : Nat} {x : α} (h : l[i]? = some x) : l.drop i = x :: l.drop (i + 1) := by
  obtain ⟨hl, rfl⟩ := List.getElem?_eq_some_iff.1 h
  exact List.drop_eq_getElem_cons hl
theorem scan_fin {N : Nat → List ByteArray} {seen seen2 : List (List UInt8)} (k i : Nat) (e : Int) (hk : k < 6) (h : scanP N 6 0 [] = scanP N (6 - k) k seen) (h2 : scanL k (N k) 0 seen = (some (e, k, i), seen2)) : scanP N 6 0 [] = some (e, k, i) := by
  obtain ⟨m, hm⟩ : ∃ m, 6 - k = m + 1 := ⟨5 - k, by omega⟩
  rw [h, hm, scanP, h2]
theorem GV.only {B g : Nat} {w w' : World} (h : GV B w) (hg : w.grownBy w' (some g)) (hB : B ≤ g) (hB' : B ≤ w.heap.size) : GV B w' :=
  h.below ⟨hg.os, hg.tape, hg.output, hg.size, fun k hk => hg.block k (by omega) (fun e => by injection e with e; omega)⟩
theorem CntMap.drewN {w : World} {b n : Nat} {f : List UInt8 → Int} (h : CntMap w b n f) (k : Nat) : CntMap (w.drewN k) b n f := h.grown (row := none) ⟨rfl, rfl, rfl, Nat.le_refl _, fun _ _ _ => rfl⟩ (by simp)

set_option maxHeartbeats 2000000 in
set_option maxRecDepth 100000 in
theorem called_any (w : World) (B ga : Nat) (A : Nat → Option Addr) (c : Nat → Nat) (N : Nat → List ByteArray) (hB : B ≤ w.heap.size) (hall : AllIn w B ga A c N) (gv : GV B w)
    (hlen : ∀ k, k < 6 → (N k).length ≤ 65535) (hnm : ∀ k, k < 6 → ∀ s ∈ N k, s.size ≤ 140737488355328) :
    Calls Tryz.prog 47 #[.pointer (some ⟨ga, 0, none⟩)] w fun e w' => e = .returned (scanV (scanP N 6 0 [])) ∧ Below w.heap.size w w' := by
  have hmm := @run_makeMap Tryz.prog
  have HA := Lib.hid hall; clear hall
  have HG := Lib.hid gv; clear gv
  have HL := Lib.hid hlen; clear hlen
  have HN := Lib.hid hnm; clear hnm
  have hga : ga < B := HA.out.lt
  go_enter Tryz.func47, Tryz.ntmps47
  go_wp2_with fail
  generalize hW : World.alloc _ _ = W1
  have hs1 : W1.heap.size = w.heap.size + 1 + 1 := by subst hW; simp
  have hb1 : Below w.heap.size w W1 := by subst hW; go_grown
  have hr1 : Hid (Blk W1 w.heap.size 76 #[.int .i64 0, .int .i64 0, .int .i64 0]) := by
    subst hW
    exact Blk.keepAlloc (Blk.new w _ _) _
  have hm1 : Hid (CntMap W1 (w.heap.size + 1) 0 (inSeen [])) := by
    subst hW
    have := CntMap.made (w.alloc (.cells #[.int .i64 0, .int .i64 0, .int .i64 0] 76))
    rw [World.size_alloc] at this
    exact this
  have HS1 := Lib.hid hs1
  have hws : w.heap.size + 1 + 1 ≤ W1.heap.size := by omega
  clear hW hs1
  go_loopw [13] (fun i wr => ∃ (k : Nat) (seen : List (List UInt8)), k ≤ 6 ∧ i = .int .i64 k ∧ scanP N 6 0 [] = scanP N (6 - k) k seen ∧ CntMap wr (w.heap.size + 1) seen.length (inSeen seen) ∧ seen.length ≤ k * 65535 ∧ W1.grownBy wr (some (w.heap.size + 1))) (fun i _ => 6 - (intOf i).toNat)
  case atStart => exact ⟨0, [], by omega, rfl, rfl, hm1.out, by simp, World.grownBy.refl _ _⟩
  case round =>
    obtain ⟨k, seen, hk, rfl, hsc, hcm, hsl, hg⟩ := hrel
    have HSC := Lib.hid hsc; clear hsc
    have HCM := Lib.hid hcm; clear hcm
    obtain ⟨wo, rfl⟩ : ∃ x : World, x = wr := ⟨_, rfl⟩
    have hwo : W1.heap.size ≤ wo.heap.size := hg.size
    by_cases hlt : k < 6
    · have hA := ((HA.out.below (hb1.mono hB)).only hg (by omega) (by have := HS1.out; omega))
      have hcell : wo.cell? ⟨ga, k, none⟩ = some (.slice (A k) (N k).length (c k)) := hA.cell k hlt
      have hlk : (N k).length ≤ 65535 := HL.out k hlt
      clear hA
      have hk0 : (0 : Int) ≤ (k : Int) := by omega
      have hk6 : (k : Int) < 6 := by omega
      go_wp2_with fail
      go_quiet (fail)
      go_wp2_with fail
      have HG0 := Lib.hid hg
      go_loopw [21] (fun j wr => ∃ (i : Nat) (seen2 : List (List UInt8)), i ≤ (N k).length ∧ j = .int .i64 i ∧ scanL k (N k) 0 seen = scanL k ((N k).drop i) i seen2 ∧ CntMap wr (w.heap.size + 1) seen2.length (inSeen seen2) ∧ seen2.length = seen.length + i ∧ W1.grownBy wr (some (w.heap.size + 1))) (fun j _ => (N k).length - (intOf j).toNat)
      case atStart => exact ⟨0, seen, by omega, rfl, rfl, HCM.out.drewN _, rfl, only_drewN HG0.out _⟩
      case round =>
        obtain ⟨i, seen2, hi, rfl, hsc2, hcm2, hsl2, hg2⟩ := hrel
        have HSC2 := Lib.hid hsc2; clear hsc2
        have HCM2 := Lib.hid hcm2; clear hcm2
        have HSL2 := Lib.hid hsl2
        have hsl3 : seen2.length ≤ 6 * 65535 := by omega
        clear hsl2
        have hwr : W1.heap.size ≤ wr.heap.size := hg2.size
        have hmlt : w.heap.size + 1 < wr.heap.size := HCM2.out.lt
        by_cases hil : i < (N k).length
        · obtain ⟨s, hs0⟩ := get_some hil
          have hs : s.size ≤ 140737488355328 := HN.out k hlt s (get_mem hs0)
          obtain ⟨g, off, hA, hgB, q0⟩ := (((HA.out.below (hb1.mono hB)).only hg2 (by omega) (by omega)).rd k hlt).str hs0
          have hgv : GV B (wr.alloc (.cells #[.int .i64 k, .int .i64 i, .int .i64 0] 76)) := ((HG.out.below (hb1.mono hB)).only hg2 (by omega) (by omega)).below ((Below.refl _ _).alloc (by omega) _)
          have HD := Lib.hid (List.drop_eq_getElem_cons hil)
          have HX := Lib.hid hs0
          clear hs0
          rw [hA]
          clear hA
          go_wp2_with fail
          refine (name_any s hs _ (by simp; omega) hgv).mono ?_
          rintro e w1 ⟨rfl, hb2⟩
          have hg1 : wr.grownBy w1 none := World.grownBy.trans (World.grownBy_alloc wr _ none) (only_of_below hb2 none)
          have hbox : Blk w1 wr.heap.size 76 #[.int .i64 k, .int .i64 i, .int .i64 0] := (Blk.new wr _ _).below hb2 (by simp)
          have hres : Blk w1 w.heap.size 76 #[.int .i64 0, .int .i64 0, .int .i64 0] := (hr1.out.only hg2 (by omega)).grown hg1 (by simp)
          have hcm1 := Lib.hid (HCM2.out.grown hg1 (by simp))
          have hbw : Below w.heap.size w w1 := ((hb1.grown hg2 (by omega) (by intro q hq; injection hq; omega)).grown hg1 (by omega) (by simp))
          have hgw := Lib.hid (only_grown hg2 hg1 (by simp))
          have hw1s := hb2.size
          simp only [World.size_alloc] at hw1s
          cases hn : nameB s with
          | false =>
            have hfin : Hid (scanP N 6 0 [] = some (111, k, i)) := scan_fin k i 111 (by omega) HSC.out (by rw [HSC2.out, drop_at HX.out, scan_bad hn])
            have c0 : w1.cell? ⟨wr.heap.size, 0, none⟩ = some (.int .i64 k) := hbox.cell 0
            have c1 : w1.cell? ⟨wr.heap.size, 1, none⟩ = some (.int .i64 i) := hbox.cell 1
            have c2 : w1.cell? ⟨wr.heap.size, 2, none⟩ = some (.int .i64 0) := hbox.cell 2
            have d0 : w1.cell? ⟨w.heap.size, 0, none⟩ = some (.int .i64 0) := hres.cell 0
            have d1 : w1.cell? ⟨w.heap.size, 1, none⟩ = some (.int .i64 0) := hres.cell 1
            have d2 : w1.cell? ⟨w.heap.size, 2, none⟩ = some (.int .i64 0) := hres.cell 2
            have e0 := hres.frozen 0
            have e1 := hres.frozen 1
            have e2 := hres.frozen 2
            go_wp2_with fail
            go_region
            all_goals
              go_wp2_with fail
              try simp only [Exit.inBlock, Exit.then]
              refine bodyPost_ret (v := spotV 111 k i 0) ?_ rfl ?_
              · refine results_tmp_cell (t := 2) (p := 3) rfl _ _ w.heap.size 76 #[.int .i64 k, .int .i64 i, .int .i64 0] (0, 0) _ (by rfl) (((hres.set_ 0 _).set_ 1 _).set_ 2 _) Tryz.underlying76 rfl size_spot
              exact ⟨by rw [hfin.out]; rfl, by repeat' (first | (with_reducible exact Below.refl _ _) | (with_reducible assumption) | (with_reducible refine below_drewN ?_ _) | (with_reducible refine Below.drew ?_) | (with_reducible refine Below.alloc ?_ ?_ _) | (with_reducible refine Below.setCell ?_ ?_ _) | go_size)⟩
          | true =>
            have hlook := hcm1.out.look hs
            by_cases hx : s.data.toList ∈ seen2
            · have hfin : Hid (scanP N 6 0 [] = some (112, k, i)) := scan_fin k i 112 (by omega) HSC.out (by rw [HSC2.out, drop_at HX.out, scan_twice hn hx])
              rw [show inSeen seen2 s.data.toList = 1 from by simp [inSeen, hx]] at hlook
              have HXS := Lib.hid hx; clear hx
              go_wp2_with (at_mapUpdate; go_must (refine wpList_cnt _ rfl _ _ _ rfl (w.heap.size + 1) seen2.length (inSeen seen2) (by rfl) hcm1.out (by simp only [maxLen]; omega) s 2 hs (by rfl) (by rfl) (by decide) ?_); intro w2 hcm2 hg3; have hlook2 := hcm2.look hs; simp only [if_pos] at hlook2)
              have hbox2 := hbox.only hg3 (by omega)
              have hres2 := hres.only hg3 (by omega)
              have hbw2 : Below w.heap.size w w2 := hbw.grown hg3 (by omega) (by intro q hq; injection hq; omega)
              have c0 : w2.cell? ⟨wr.heap.size, 0, none⟩ = some (.int .i64 k) := hbox2.cell 0
              have c1 : w2.cell? ⟨wr.heap.size, 1, none⟩ = some (.int .i64 i) := hbox2.cell 1
              have c2 : w2.cell? ⟨wr.heap.size, 2, none⟩ = some (.int .i64 0) := hbox2.cell 2
              have d0 : w2.cell? ⟨w.heap.size, 0, none⟩ = some (.int .i64 0) := hres2.cell 0
              have d1 : w2.cell? ⟨w.heap.size, 1, none⟩ = some (.int .i64 0) := hres2.cell 1
              have d2 : w2.cell? ⟨w.heap.size, 2, none⟩ = some (.int .i64 0) := hres2.cell 2
              have e0 := hres2.frozen 0
              have e1 := hres2.frozen 1
              have e2 := hres2.frozen 2
              go_region
              all_goals
                go_wp2_with fail
                try simp only [Exit.inBlock, Exit.then]
                refine bodyPost_ret (v := spotV 112 k i 0) ?_ rfl ?_
                · refine results_tmp_cell (t := 2) (p := 3) rfl _ _ w.heap.size 76 #[.int .i64 k, .int .i64 i, .int .i64 0] (0, 0) _ (by rfl) (((hres2.set_ 0 _).set_ 1 _).set_ 2 _) Tryz.underlying76 rfl size_spot
                exact ⟨by rw [hfin.out]; rfl, by repeat' (first | (with_reducible exact Below.refl _ _) | (with_reducible assumption) | (with_reducible refine below_drewN ?_ _) | (with_reducible refine Below.drew ?_) | (with_reducible refine Below.alloc ?_ ?_ _) | (with_reducible refine Below.setCell ?_ ?_ _) | go_size)⟩
            · rw [show inSeen seen2 s.data.toList = 0 from by simp [inSeen, hx]] at hlook
              have HXS := Lib.hid hx; clear hx
              go_wp2_with (at_mapUpdate; go_must (refine wpList_cnt _ rfl _ _ _ rfl (w.heap.size + 1) seen2.length (inSeen seen2) (by rfl) hcm1.out (by simp only [maxLen]; omega) s 1 hs (by rfl) (by rfl) (by decide) ?_); intro w2 hcm2 hg3; have hlook2 := hcm2.look hs; simp only [if_pos] at hlook2)
              go_roundw
              case rel =>
                refine ⟨i + 1, s.data.toList :: seen2, by omega, by go_num, by rw [HSC2.out, drop_at HX.out, scan_ok hn HXS.out], ?_, by rw [List.length_cons, HSL2.out]; omega, only_grown hgw.out hg3 (by intro q hq; injection hq; omega)⟩
                have := inSeen_cons seen2 s.data.toList
                rw [if_neg HXS.out] at this
                rw [← this]
                have hz : inSeen seen2 s.data.toList + 1 = 1 := by simp [inSeen, HXS.out]
                rw [hz]
                exact hcm2
              case measure => simp [intOf]; omega
        · obtain rfl : i = (N k).length := by omega
          have hend : Hid (scanP N 6 0 [] = scanP N (6 - (k + 1)) (k + 1) seen2) := by
            obtain ⟨m, hm⟩ : ∃ m, 6 - k = m + 1 := ⟨5 - k, by omega⟩
            have h1 : scanL k (N k) 0 seen = (none, seen2) := by rw [HSC2.out, List.drop_of_length_le (Nat.le_refl _)]; rfl
            show _ = _
            rw [HSC.out, hm, scanP, h1, show 6 - (k + 1) = m from by omega]
          clear hi hil
          go_wp2_with fail
          go_roundw
          case rel =>
            refine ⟨k + 1, seen2, by omega, by go_num, hend.out, HCM2.out, ?_, hg2⟩
            rw [HSL2.out, Nat.succ_mul]
            exact Nat.add_le_add hsl hlk
          case measure => simp [intOf]; omega
    · obtain rfl : k = 6 := by omega
      have hres := hr1.out.only hg (by omega)
      have hfin : Hid (scanP N 6 0 [] = none) := by
        show _ = _
        rw [HSC.out]; rfl
      have hbw : Below w.heap.size w wo := hb1.grown hg (by omega) (by intro q hq; injection hq; omega)
      have d0 : wo.cell? ⟨w.heap.size, 0, none⟩ = some (.int .i64 0) := hres.cell 0
      have d1 : wo.cell? ⟨w.heap.size, 1, none⟩ = some (.int .i64 0) := hres.cell 1
      have d2 : wo.cell? ⟨w.heap.size, 2, none⟩ = some (.int .i64 0) := hres.cell 2
      have e0 := hres.frozen 0
      have e1 := hres.frozen 1
      have e2 := hres.frozen 2
      go_wp2_with fail
      try simp only [Exit.inBlock, Exit.then]
      refine bodyPost_ret (v := spotV 0 0 0 0) ?_ rfl ?_
      · refine results_tmp_cell (t := 2) (p := 3) rfl _ _ w.heap.size 76 #[.int .i64 0, .int .i64 0, .int .i64 0] (0, 0) _ (by rfl) (((hres.set_ 0 _).set_ 1 _).set_ 2 _) Tryz.underlying76 rfl size_spot
      exact ⟨by rw [hfin.out]; rfl, by repeat' (first | (with_reducible exact Below.refl _ _) | (with_reducible assumption) | (with_reducible refine below_drewN ?_ _) | (with_reducible refine Below.drew ?_) | (with_reducible refine Below.alloc ?_ ?_ _) | (with_reducible refine Below.setCell ?_ ?_ _) | go_size)⟩
end Go.Proofs.YtgdnpmpnkbnjaaaGreatDoor
namespace Go.Proofs.YtgdnpmpnkbnjaaaGreatDoor
open Go.RowKit

def regsN (op : Int) : Int := if op = 3 ∨ op = 4 ∨ op = 5 ∨ op = 6 ∨ op = 7 then 3 else if op = 2 then 2 else if op = 1 ∨ op = 9 ∨ op = 10 ∨ op = 11 ∨ op = 12 ∨ op = 13 ∨ op = 14 then 1 else 0
set_option maxHeartbeats 400000 in
theorem registers_any (op : Int) (w : World) : Calls Tryz.prog 66 #[.int .i64 op] w fun e w' => e = .returned (.int .i64 (regsN op)) ∧ w = w' := by
  go_enter Tryz.func66, Tryz.ntmps66
  go_wp2
  all_goals (go_ret; refine ⟨?_, rfl⟩; simp at *; unfold regsN; simp [*])

def regOk (i r n : Int) : Prop := 0 ≤ r ∧ r ≤ 15 ∧ (n ≤ i → r = 0)
def regsOk (x : Ins) : Prop := regOk 0 x.a (regsN x.op) ∧ regOk 1 x.b (regsN x.op) ∧ regOk 2 x.c (regsN x.op)
/-- which list an operation's N names (0: another matter) -/
def listOf (op : Int) : Nat := if op = 11 ∨ op = 12 then 1 else if op = 13 ∨ op = 14 then 2 else if op = 15 ∨ op = 16 then 3 else if op = 17 ∨ op = 18 then 5 else if op = 19 then 4 else 0
def numOk (x : Ins) (code : Int) (cnt : Nat → Nat) : Prop :=
  if x.op = 1 then True else if x.op = 8 ∨ x.op = 9 then 0 ≤ x.n ∧ x.n < code else if listOf x.op = 0 then x.n = 0 else 0 ≤ x.n ∧ x.n < (cnt (listOf x.op) : Int)
open Classical in
noncomputable def fieldB (x : Ins) (code : Int) (cnt : Nat → Nat) : Bool := decide (regsOk x ∧ numOk x code cnt)

def Ins.reg (x : Ins) : Nat → Int
  | 0 => x.a
  | 1 => x.b
  | _ => x.c
theorem regs_index (x : Ins) (k : Nat) (hk : k < 3) (w : World) : (Instr.index 128 (.agg #[.int .i64 x.a, .int .i64 x.b, .int .i64 x.c]) (.int .i64 (k : Int))).run Tryz.prog w = .ok (.int .i64 (x.reg k)) w := by
  have h : k = 0 ∨ k = 1 ∨ k = 2 := by omega
  rcases h with rfl | rfl | rfl
  · show (Instr.index 128 (.agg #[.int .i64 x.a, .int .i64 x.b, .int .i64 x.c]) (.int .i64 0)).run Tryz.prog w = .ok (.int .i64 x.a) w
    kernel_rfl
  · show (Instr.index 128 (.agg #[.int .i64 x.a, .int .i64 x.b, .int .i64 x.c]) (.int .i64 1)).run Tryz.prog w = .ok (.int .i64 x.b) w
    kernel_rfl
  · show (Instr.index 128 (.agg #[.int .i64 x.a, .int .i64 x.b, .int .i64 x.c]) (.int .i64 2)).run Tryz.prog w = .ok (.int .i64 x.c) w
    kernel_rfl
theorem regsOk_of {x : Ins} (h : ∀ j : Nat, j < 3 → regOk j (x.reg j) (regsN x.op)) : regsOk x := ⟨h 0 (by omega), h 1 (by omega), h 2 (by omega)⟩
theorem regsOk_at {x : Ins} (h : regsOk x) (j : Nat) (hj : j < 3) : regOk j (x.reg j) (regsN x.op) := by
  have e : j = 0 ∨ j = 1 ∨ j = 2 := by omega
  rcases e with rfl | rfl | rfl
  · exact h.1
  · exact h.2.1
  · exact h.2.2
open Classical in
theorem fieldB_regs {x : Ins} {code : Int} {cnt : Nat → Nat} (j : Nat) (hj : j < 3) (h : ¬ regOk j (x.reg j) (regsN x.op)) : fieldB x code cnt = false := by
  unfold fieldB
  exact decide_eq_false (fun hh => h (regsOk_at hh.1 j hj))

end Go.Proofs.YtgdnpmpnkbnjaaaGreatDoor
