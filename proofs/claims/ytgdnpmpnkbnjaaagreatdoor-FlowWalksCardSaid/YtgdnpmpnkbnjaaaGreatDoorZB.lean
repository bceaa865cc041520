/- Contracts of parse.register and abreastref08.register: which register a word is, -1 if none. Conditions: as the text before. Contracts of parse.starts, parse.Word and abreastref08.Word: whether a text is one of the assembler's words. Conditions: as before. Contracts of abreastref08.shaped, abreastref08.Name and parse.Name: whether a text is a name. Conditions: as before. Contracts of abreastref08.Name and parse.Name: whether a text is a name. Conditions: as before. -/
import Derived.Test.YtgdnpmpnkbnjaaaGreatDoorZNamesD
import Derived.Lib.SmallJoins
namespace Go.Proofs.YtgdnpmpnkbnjaaaGreatDoor
open Go.RowKit

def regWords : List (List UInt8) := [[114, 48], [114, 49], [114, 50], [114, 51], [114, 52], [114, 53], [114, 54], [114, 55], [114, 56], [114, 57], [114, 49, 48], [114, 49, 49], [114, 49, 50], [114, 49, 51], [114, 49, 52], [114, 49, 53]]
def regN (l : List UInt8) : Int := (idxN regWords l 1 : Int) - 1
theorem dec_lit (i : Nat) (hi : i < 16) : regWords[i]? = some (114 :: Lib.decDigits i) ∧ Lib.parseUintB 8 (Lib.decDigits i) = .ok i := by
  have hk : i = 0 ∨ i = 1 ∨ i = 2 ∨ i = 3 ∨ i = 4 ∨ i = 5 ∨ i = 6 ∨ i = 7 ∨ i = 8 ∨ i = 9 ∨ i = 10 ∨ i = 11 ∨ i = 12 ∨ i = 13 ∨ i = 14 ∨ i = 15 := by omega
  rcases hk with rfl | rfl | rfl | rfl | rfl | rfl | rfl | rfl | rfl | rfl | rfl | rfl | rfl | rfl | rfl | rfl <;> (refine ⟨by simp [regWords, Lib.decDigits], by simp [Lib.decDigits, Lib.parseUintB, Lib.parseUintM]⟩)
theorem dec_len (i : Nat) (hi : i < 16) : (Lib.decDigits i).length ≤ 2 := by
  have hk : i = 0 ∨ i = 1 ∨ i = 2 ∨ i = 3 ∨ i = 4 ∨ i = 5 ∨ i = 6 ∨ i = 7 ∨ i = 8 ∨ i = 9 ∨ i = 10 ∨ i = 11 ∨ i = 12 ∨ i = 13 ∨ i = 14 ∨ i = 15 := by omega
  rcases hk with rfl | rfl | rfl | rfl | rfl | rfl | rfl | rfl | rfl | rfl | rfl | rfl | rfl | rfl | rfl | rfl <;> simp [Lib.decDigits]
theorem cat_list (d : List UInt8) : (({ data := #[114] } : ByteArray) ++ ({ data := d.toArray } : ByteArray)).toList = 114 :: d := by
  rw [Lib.toList_data, Joins.data_append]; simp
theorem idxN_spec (l : List UInt8) : ∀ (ws : List (List UInt8)) (k : Nat), (∃ i, ws[i]? = some l ∧ idxN ws l k = k + i ∧ ∀ j, j < i → ws[j]? ≠ some l) ∨ ((∀ i : Nat, ws[i]? ≠ some l) ∧ idxN ws l k = 0)
  | [], k => .inr ⟨by simp, rfl⟩
  | w :: r, k => by
    by_cases h : w = l
    · exact .inl ⟨0, by simp [h], by simp [idxN, h], by omega⟩
    · rcases idxN_spec l r (k + 1) with ⟨i, h1, h2, h3⟩ | ⟨h1, h2⟩
      · refine .inl ⟨i + 1, by simpa using h1, by simp [idxN, h, h2]; omega, ?_⟩
        intro j hj
        cases j with
        | zero => simpa using h
        | succ j => simpa using h3 j (by omega)
      · refine .inr ⟨?_, by simp [idxN, h, h2]⟩
        intro i
        cases i with
        | zero => simpa using h
        | succ i => simpa using h1 i
theorem regN_cases (l : List UInt8) : (∃ i, i < 16 ∧ l = 114 :: Lib.decDigits i ∧ regN l = i) ∨ ((∀ i, i < 16 → l ≠ 114 :: Lib.decDigits i) ∧ regN l = -1) := by
  unfold regN
  rcases idxN_spec l regWords 1 with ⟨i, h1, h2, _⟩ | ⟨h1, h2⟩
  · have hi : i < 16 := by
      have := (List.getElem?_eq_some_iff.1 h1).1
      simpa [regWords] using this
    refine .inl ⟨i, hi, ?_, by rw [h2]; omega⟩
    have := (dec_lit i hi).1
    rw [h1] at this
    injection this
  · refine .inr ⟨?_, by rw [h2]; rfl⟩
    intro i hi e
    exact h1 i (by rw [(dec_lit i hi).1, e])
theorem regN_yes (d : List UInt8) (u : Nat) (hu : u < 16) (h : Lib.decDigits u = d) : regN (114 :: d) = u := by
  rcases regN_cases (114 :: d) with ⟨i, hi, he, hr⟩ | ⟨hn, _⟩
  · rw [hr]
    injection he with _ he
    have h1 := (dec_lit i hi).2
    have h2 := (dec_lit u hu).2
    rw [h, he, h1] at h2
    injection h2 with h2
    rw [h2]
  · exact absurd (by rw [h]) (hn u hu)
theorem regN_no (l : List UInt8) (h : ∀ i, i < 16 → l ≠ 114 :: Lib.decDigits i) : regN l = -1 := by
  rcases regN_cases l with ⟨i, hi, he, _⟩ | ⟨_, h⟩
  · exact absurd he (h i hi)
  · exact h

theorem regN_no_of (d : List UInt8) (h : ∀ i, i < 16 → d ≠ Lib.decDigits i) : regN (114 :: d) = -1 :=
  regN_no _ fun i hi e => h i hi (by injection e)

theorem cut_r (s : ByteArray) (w : World) : Calls Tryz.prog 93 #[.string s, .string ⟨#[114]⟩] w fun e w' => w = w' ∧ ∃ (d : ByteArray) (ok : Bool), e = .returned (.tuple #[.string d, .bool ok]) ∧ d.size ≤ s.size ∧ (ok = true → s.toList = 114 :: d.toList) ∧ (ok = false → ∀ x, s.toList ≠ 114 :: x) := by
  refine (Tryz.strings_CutPrefix s ⟨#[114]⟩ w).mono ?_
  rintro e w' ⟨rfl, rfl⟩
  refine ⟨rfl, _, _, rfl, ?_, ?_, ?_⟩
  · rw [Lib.size_eq s]
    show (Lib.trimPrefix s.data.toList [114]).length ≤ _
    unfold Lib.trimPrefix
    split <;> simp
  · intro h
    have h' : Lib.hasPrefix s.data.toList [114] = true := h
    rw [Lib.toList_data, Lib.toList_data]
    show _ = 114 :: Lib.trimPrefix s.data.toList [114]
    unfold Lib.trimPrefix
    rw [if_pos h']
    cases hh : s.data.toList with
    | nil => rw [hh] at h'; simp [Lib.hasPrefix] at h'
    | cons a r => rw [hh] at h'; simp [Lib.hasPrefix] at h'; simp [← h']
  · intro h x hx
    have h' : Lib.hasPrefix s.data.toList [114] = false := h
    rw [Lib.toList_data] at hx
    rw [hx] at h'
    simp [Lib.hasPrefix] at h'

set_option maxHeartbeats 400000 in
theorem register_any {B : Nat} (s : ByteArray) (hs : s.size ≤ 140737488355328) (w : World) (hB : B ≤ w.heap.size) (gv : GV B w) :
    Calls Tryz.prog 83 #[.string s] w fun e w' => e = .returned (.int .i64 (regN s.toList)) ∧ Below w.heap.size w w' := by
  go_enter Tryz.func83, Tryz.ntmps83
  go_wp2_with fail
  refine (cut_r s _).mono ?_
  rintro e w1 ⟨rfl, d, ok, rfl, hsz, hyes, hno⟩
  have HY := Lib.hid hyes; clear hyes
  have HN := Lib.hid hno; clear hno
  go_wp2_with fail
  refine (parse8 d (by omega) _ hB gv).mono ?_
  rintro e w1 ⟨u, er, rfl, hp, hb⟩
  cases ok with
  | false =>
    go_wp2_with fail
    go_ret
    exact ⟨ret_int (regN_no _ (fun i hi => HN.out (by trivial) _)).symm, hb⟩
  | true =>
    have hy := Lib.hid (HY.out rfl); clear HY HN
    unfold parsed at hp
    rcases h : Lib.parseUintB 8 d.data.toList with v | _ | _
    · rw [h] at hp
      obtain ⟨rfl, rfl⟩ := hp
      have Hp := Lib.hid h; clear h
      have hpv := Lib.hid (regN_no_of d.toList)
      by_cases hv : v < 16
      · have h16 : decide ((16 : Int) ≤ (v : Int)) = false := by simp; omega
        cases hd : (Lib.decDigits v == d.toList) with
        | true =>
          go_wp2_with fail
          refine (Tryz.strconv_Itoa_small v (by omega) _).mono ?_
          rintro e w2 ⟨rfl, rfl⟩
          go_wp2_with fail
          go_ret
          refine ⟨ret_int ?_, hb⟩
          rw [hy.out, regN_yes d.toList v hv (by simpa using hd)]
        | false =>
          go_wp2_with fail
          refine (Tryz.strconv_Itoa_small v (by omega) _).mono ?_
          rintro e w2 ⟨rfl, rfl⟩
          go_wp2_with fail
          go_ret
          refine ⟨ret_int ?_, hb⟩
          rw [hy.out, hpv.out (fun i hi e => ?_)]
          rw [Lib.toList_data] at e hd
          rw [e] at hd
          have h1 := Hp.out
          rw [e, (dec_lit i hi).2] at h1
          injection h1 with h1
          subst h1
          simp at hd
      · have h16 : decide ((16 : Int) ≤ (v : Int)) = true := by simp; omega
        go_wp2_with fail
        go_ret
        refine ⟨ret_int ?_, hb⟩
        rw [hy.out, hpv.out (fun i hi e => ?_)]
        rw [Lib.toList_data] at e
        have h1 := Hp.out
        rw [e, (dec_lit i hi).2] at h1
        injection h1 with h1
        omega
    all_goals
      rw [h] at hp
      obtain ⟨t, p, rfl⟩ := hp
      have Hp := Lib.hid h; clear h
      go_wp2_with fail
      go_ret
      refine ⟨ret_int ?_, hb⟩
      rw [hy.out, regN_no_of d.toList (fun i hi e => ?_)]
      rw [Lib.toList_data] at e
      have h1 := Hp.out
      rw [e, (dec_lit i hi).2] at h1
      cases h1

end Go.Proofs.YtgdnpmpnkbnjaaaGreatDoor
namespace Go.Proofs.YtgdnpmpnkbnjaaaGreatDoor
open Go.RowKit

def wordB (l : List UInt8) : Bool := decide (opN l ≠ 0 ∨ 0 ≤ regN l ∨ kindN l ≠ 0)
def startsL : List ByteArray := [⟨#[]⟩, ⟨#[118, 97, 114]⟩, ⟨#[118, 111, 108]⟩, ⟨#[109, 117, 116, 101, 120]⟩, ⟨#[103, 97, 116, 101]⟩, ⟨#[116, 104, 114, 101, 97, 100]⟩]

set_option maxHeartbeats 400000 in
theorem starts_any (w : World) :
    Calls Tryz.prog 85 #[] w fun e w' => ∃ g, e = .returned (.slice (some ⟨g, 0, none⟩) 6 6) ∧ (∀ j, j < startsL.length → w'.cell? ⟨g, 0 + j, none⟩ = some (.string (startsL.getD j ByteArray.empty))) ∧ Below w.heap.size w w' := by
  go_enter Tryz.func85, Tryz.ntmps85
  go_wp2
  go_ret
  refine ⟨_, rfl, ?_, by go_grown⟩
  intro j hj
  have hk : j = 0 ∨ j = 1 ∨ j = 2 ∨ j = 3 ∨ j = 4 ∨ j = 5 := by simp [startsL] at hj; omega
  rcases hk with rfl | rfl | rfl | rfl | rfl | rfl <;> simp [go_sem, startsL]

theorem kindN_iff (s : ByteArray) (h : s.toList ≠ []) : (Lib.containsS startsL s) = decide (kindN s.toList ≠ 0) := by
  have h1 : Lib.containsS startsL s = true ↔ s ∈ startsL := by first | exact Lib.containsS_iff _ _ | exact Lib.containsS_iff
  have hl : ∀ b : List UInt8, s = ⟨b.toArray⟩ ↔ b = s.toList := by
    intro b
    rw [Lib.toList_data]
    constructor
    · rintro rfl; simp
    · intro e
      cases s with
      | mk d => simp at e; subst e; simp
  refine bool_iff (h1.trans ?_)
  unfold startsL kindN
  simp only [List.mem_cons, List.not_mem_nil, or_false]
  rw [hl [], hl [118, 97, 114], hl [118, 111, 108], hl [109, 117, 116, 101, 120], hl [103, 97, 116, 101], hl [116, 104, 114, 101, 97, 100]]
  have h' : ¬ [] = s.toList := fun e => h e.symm
  simp only [h', false_or]
  repeat' split
  all_goals simp_all

theorem wordB_nil : wordB [] = false := by rfl
theorem wordB_op {l : List UInt8} (h : (opN l : Int) ≠ 0) : wordB l = true := by unfold wordB; simp; omega
theorem wordB_reg {l : List UInt8} (h : 0 ≤ regN l) : wordB l = true := by unfold wordB; simp; omega
theorem wordB_kind {l : List UInt8} (h : (opN l : Int) = 0) (h2 : ¬ 0 ≤ regN l) : wordB l = decide (kindN l ≠ 0) := by
  unfold wordB
  have : opN l = 0 := by omega
  simp [this, h2]

set_option maxHeartbeats 400000 in
theorem word_any {B : Nat} (s : ByteArray) (hs : s.size ≤ 140737488355328) (w : World) (hB : B ≤ w.heap.size) (gv : GV B w) :
    Calls Tryz.prog 65 #[.string s] w fun e w' => e = .returned (.bool (wordB s.toList)) ∧ Below w.heap.size w w' := by
  cases h0 : s.toList.isEmpty with
  | true =>
    have hr : Hid (wordB s.toList = false) := by rw [List.isEmpty_iff.1 h0]; exact wordB_nil
    go_enter Tryz.func65, Tryz.ntmps65
    go_wp2_with fail
    go_ret
    exact ⟨ret_bool hr.out.symm, Below.refl _ _⟩
  | false =>
    have hne : Hid (s.toList ≠ []) := by intro e; rw [e] at h0; cases h0
    by_cases h1 : (opN s.toList : Int) = 0
    · by_cases h2 : 0 ≤ regN s.toList
      · have hr := Lib.hid (wordB_reg h2)
        have h1 : ((opN s.toList : Int) != 0) = false := by simp; omega
        go_enter Tryz.func65, Tryz.ntmps65
        go_wp2_with fail
        refine (parseOp_any s _).mono ?_
        rintro e w1 ⟨rfl, hb1⟩
        go_wp2_with fail
        refine (register_any s hs _ (Nat.le_trans hB hb1.size) (gv.below (hb1.mono hB))).mono ?_
        rintro e w2 ⟨rfl, hb2⟩
        go_wp2_with fail
        go_ret
        exact ⟨ret_bool hr.out.symm, hb1.trans (hb2.mono hb1.size)⟩
      · have hr := Lib.hid (wordB_kind h1 h2)
        have h1 : ((opN s.toList : Int) != 0) = false := by simp; omega
        have h3 : decide (0 ≤ regN s.toList) = false := by simp; omega
        clear h2
        go_enter Tryz.func65, Tryz.ntmps65
        go_wp2_with fail
        refine (parseOp_any s _).mono ?_
        rintro e w1 ⟨rfl, hb1⟩
        go_wp2_with fail
        refine (register_any s hs _ (Nat.le_trans hB hb1.size) (gv.below (hb1.mono hB))).mono ?_
        rintro e w2 ⟨rfl, hb2⟩
        go_wp2_with fail
        refine (starts_any _).mono ?_
        rintro e w3 ⟨g, rfl, hc, hb3⟩
        have HC := Lib.hid hc; clear hc
        go_wp2_with fail
        refine (Tryz.slices_Contains_string g 0 6 6 startsL s _ (by simp [startsL]) (by omega) HC.out).mono ?_
        rintro e w4 ⟨rfl, rfl⟩
        go_wp2_with fail
        go_ret
        have hb := hb1.trans (hb2.mono hb1.size)
        refine ⟨ret_bool ?_, hb.trans (hb3.mono hb.size)⟩
        rw [hr.out, ← kindN_iff s hne.out]
        rfl
    · have hr := Lib.hid (wordB_op h1)
      have h1 : ((opN s.toList : Int) != 0) = true := by simp; omega
      go_enter Tryz.func65, Tryz.ntmps65
      go_wp2_with fail
      refine (parseOp_any s _).mono ?_
      rintro e w1 ⟨rfl, hb1⟩
      go_wp2_with fail
      go_ret
      exact ⟨ret_bool hr.out.symm, hb1⟩
end Go.Proofs.YtgdnpmpnkbnjaaaGreatDoor
namespace Go.Proofs.YtgdnpmpnkbnjaaaGreatDoor
open Go.RowKit

def letB (c : Nat) : Bool := decide (97 ≤ c ∧ c ≤ 122 ∨ 65 ≤ c ∧ c ≤ 90)
def charB (i : Nat) (c : UInt8) : Bool := letB c.toNat || (decide (i ≠ 0) && decide (c.toNat = 95 ∨ 48 ≤ c.toNat ∧ c.toNat ≤ 57))
def shapedTo (s : ByteArray) (k : Nat) : Prop := ∀ i (h : i < s.size), i < k → charB i s[i] = true
def shapedB (s : ByteArray) : Bool := decide (s.size ≠ 0 ∧ ∀ i (h : i < s.size), charB i s[i] = true)
def nameB (s : ByteArray) : Bool := shapedB s && decide (s.size ≤ 24) && !wordB s.toList

theorem shaped_step {s : ByteArray} {k : Nat} (h : k < s.size) (hN : shapedTo s k) (hc : charB k s[k] = true) : shapedTo s (k + 1) := by
  intro i hi hik
  by_cases e : i = k
  · subst e; exact hc
  · exact hN i hi (by omega)
theorem shaped_bad {s : ByteArray} {k : Nat} (h : k < s.size) (hc : charB k s[k] = false) : shapedB s = false := by
  unfold shapedB
  refine decide_eq_false ?_
  rintro ⟨_, hh⟩
  rw [hh k h] at hc
  cases hc
theorem shaped_end {s : ByteArray} (h : shapedTo s s.size) : shapedB s = decide (0 < s.size) := by
  unfold shapedB
  refine decide_eq_decide.2 ⟨fun hh => by omega, fun hh => ⟨by omega, fun i hi => h i hi hi⟩⟩
theorem charB_let {k : Nat} {c : UInt8} (h : letB c.toNat = true) : charB k c = true := by simp [charB, h]
theorem charB_more {k : Nat} {c : UInt8} (h0 : ¬ k = 0) (h : (c.toNat : Int) = 95 ∨ 48 ≤ (c.toNat : Int) ∧ (c.toNat : Int) ≤ 57) : charB k c = true := by
  unfold charB
  simp only [Bool.or_eq_true, Bool.and_eq_true, decide_eq_true_eq]
  exact .inr ⟨h0, by omega⟩
theorem charB_first {c : UInt8} (h : letB c.toNat = false) : charB 0 c = false := by simp [charB, h]
theorem charB_not {k : Nat} {c : UInt8} (h : letB c.toNat = false) (h1 : ¬ (c.toNat : Int) = 95) (h2 : (c.toNat : Int) < 48 ∨ 57 < (c.toNat : Int)) : charB k c = false := by
  unfold charB
  rw [h]
  simp only [Bool.false_or, Bool.and_eq_false_iff, decide_eq_false_iff_not]
  exact .inr (by omega)

end Go.Proofs.YtgdnpmpnkbnjaaaGreatDoor
namespace Go.Proofs.YtgdnpmpnkbnjaaaGreatDoor
open Go.RowKit

theorem nameB_sh {s : ByteArray} (h : shapedB s = false) : nameB s = false := by simp [nameB, h]
theorem nameB_len {s : ByteArray} (h : ¬ s.size ≤ 24) : nameB s = false := by simp [nameB, h]
theorem nameB_else {s : ByteArray} (h : shapedB s = true) (h2 : s.size ≤ 24) : nameB s = !wordB s.toList := by simp [nameB, h, h2]

def or32 (c : UInt8) : Nat := (c ||| 32).toNat
theorem or32_let (c : UInt8) : letB c.toNat = decide (97 ≤ or32 c ∧ or32 c ≤ 122) := by
  have h : ∀ n : Fin 256, letB (UInt8.ofNat n.val).toNat = decide (97 ≤ or32 (UInt8.ofNat n.val) ∧ or32 (UInt8.ofNat n.val) ≤ 122) := by decide +kernel
  have := h ⟨c.toNat, c.toNat_lt⟩
  simpa using this
theorem or32_bits (c : UInt8) : bits .or .u8 (c.toNat : Int) 32 = (or32 c : Int) := by
  have h : ∀ n : Fin 256, bits .or .u8 ((UInt8.ofNat n.val).toNat : Int) 32 = (or32 (UInt8.ofNat n.val) : Int) := by decide +kernel
  have := h ⟨c.toNat, c.toNat_lt⟩
  simpa using this

set_option maxHeartbeats 400000 in
theorem name_x {B : Nat} (s : ByteArray) (h24 : s.size ≤ 24) (hne : s.toList.isEmpty = false) (w : World) (hB : B ≤ w.heap.size) (gv : GV B w) (hw : wordB s.toList = false) :
    Calls Tryz.prog 59 #[.string s] w fun e w' => e = .returned (.bool (nameB s)) ∧ Below w.heap.size w w' := by
  go_enter Tryz.func59, Tryz.ntmps59
  go_wp2_with fail
  refine (word_any s (by omega) _ hB gv).mono ?_
  rintro e w1 ⟨rfl, hb1⟩
  have hw2 := Lib.hid hw; clear hw
  have h24' : decide ((24 : Int) < (s.size : Int)) = false := by simp; omega
  rw [hw2.out]
  go_wp2_with fail
  go_loop [19] (fun i => ∃ k : Nat, k ≤ s.size ∧ i = .int .i64 k ∧ shapedTo s k) (fun i => s.size - (intOf i).toNat)
  case atStart => exact ⟨0, by omega, rfl, fun i h hi => by omega⟩
  case round =>
    obtain ⟨k, hk, rfl, hN⟩ := hrel
    have HN := Lib.hid hN; clear hN
    by_cases hlt : k < s.size
    · have hor := or32_bits s[k]
      have hlet := or32_let s[k]
      cases hl : letB s[k].toNat with
      | true =>
        rw [hl] at hlet
        have hlo : (97 : Int) ≤ (or32 s[k] : Int) := by have := of_decide_eq_true hlet.symm; omega
        have hhi : (or32 s[k] : Int) ≤ 122 := by have := of_decide_eq_true hlet.symm; omega
        clear hlet
        have hgood := Lib.hid (shaped_step hlt HN.out (charB_let hl))
        clear hl
        go_wp2_with fail
        go_round
        case rel => exact ⟨k + 1, by omega, by go_num, hgood.out⟩
        case measure => simp [intOf]; omega
      | false =>
        rw [hl] at hlet
        have hout : (or32 s[k] : Int) < 97 ∨ 97 ≤ (or32 s[k] : Int) ∧ 122 < (or32 s[k] : Int) := by have := of_decide_eq_false hlet.symm; omega
        clear hlet
        rcases hout with hlo | ⟨hlo, hhi⟩
        all_goals
          try have hhi' : decide ((or32 s[k] : Int) ≤ 122) = false := by simp; omega
          by_cases h0 : k = 0
          · subst h0
            have hbad := Lib.hid (shaped_bad hlt (charB_first hl))
            clear hl
            go_wp2_with fail
            go_ret
            exact ⟨ret_bool (nameB_sh hbad.out).symm, hb1⟩
          · have k0 : ((k : Int) == 0) = false := by simp; omega
            by_cases hm : (s[k].toNat : Int) = 95 ∨ 48 ≤ (s[k].toNat : Int) ∧ (s[k].toNat : Int) ≤ 57
            · have hgood := Lib.hid (shaped_step hlt HN.out (charB_more h0 hm))
              clear h0 hl
              go_wp2_with fail
              all_goals first
                | (exfalso; simp at *; omega)
                | (go_round
                   case rel => exact ⟨k + 1, by omega, by go_num, hgood.out⟩
                   case measure => simp [intOf]; omega)
            · have hbad := Lib.hid (shaped_bad hlt (charB_not (k := k) hl (by omega) (by omega)))
              clear h0 hl
              go_wp2_with fail
              all_goals first
                | (go_ret; exact ⟨ret_bool (nameB_sh hbad.out).symm, hb1⟩)
                | (exfalso; simp at *; omega)
    · obtain rfl : k = s.size := by omega
      have hz : 0 < s.size := by
        rcases Nat.eq_zero_or_pos s.size with h | h
        · have : s.toList = [] := by
            rw [Lib.toList_data]
            exact List.eq_nil_of_length_eq_zero (by rw [← Lib.size_eq]; exact h)
          rw [this] at hne
          cases hne
        · exact h
      have hgood : Hid (nameB s = true) := by
        have := shaped_end HN.out
        rw [decide_eq_true hz] at this
        show _ = _
        rw [nameB_else this h24, hw2.out]
        rfl
      go_wp2_with fail
      go_ret
      exact ⟨ret_bool hgood.out.symm, hb1⟩

set_option maxHeartbeats 400000 in
theorem name_any {B : Nat} (s : ByteArray) (hs : s.size ≤ 140737488355328) (w : World) (hB : B ≤ w.heap.size) (gv : GV B w) :
    Calls Tryz.prog 59 #[.string s] w fun e w' => e = .returned (.bool (nameB s)) ∧ Below w.heap.size w w' := by
  cases hne : s.toList.isEmpty with
  | true =>
    have hr : Hid (nameB s = false) := by
      have h0 : s.size = 0 := by rw [Lib.size_eq, ← Lib.toList_data, List.isEmpty_iff.1 hne]; rfl
      exact nameB_sh (by simp [shapedB, h0])
    go_enter Tryz.func59, Tryz.ntmps59
    go_wp2_with fail
    go_ret
    exact ⟨ret_bool hr.out.symm, Below.refl _ _⟩
  | false =>
    by_cases h24 : s.size ≤ 24
    · cases hw : wordB s.toList with
      | false => exact name_x s h24 hne w hB gv hw
      | true =>
        have hr : Hid (nameB s = false) := by show _ = _; simp [nameB, hw]
        have h24' : decide ((24 : Int) < (s.size : Int)) = false := by simp; omega
        have hw2 := Lib.hid hw; clear hw
        go_enter Tryz.func59, Tryz.ntmps59
        go_wp2_with fail
        refine (word_any s (by omega) _ hB gv).mono ?_
        rintro e w1 ⟨rfl, hb1⟩
        rw [hw2.out]
        go_wp2_with fail
        go_ret
        exact ⟨ret_bool hr.out.symm, hb1⟩
    · have hr := Lib.hid (nameB_len h24)
      have h24' : decide ((24 : Int) < (s.size : Int)) = true := by simp; omega
      clear h24
      go_enter Tryz.func59, Tryz.ntmps59
      go_wp2_with fail
      go_ret
      exact ⟨ret_bool hr.out.symm, Below.refl _ _⟩
end Go.Proofs.YtgdnpmpnkbnjaaaGreatDoor
