/- Contracts of parse.register and abreastref08.register: which register a word is, -1 if none. Conditions: as the text before. -/
import Derived.Test.YtknnbckmdfnmaaaDoorNamesD
import Derived.Lib.SmallJoins
namespace Go.Proofs.YtknnbckmdfnmaaaDoor
open Go.RowKit

def regWords : List (List UInt8) := [[114, 48], [114, 49], [114, 50], [114, 51], [114, 52], [114, 53], [114, 54], [114, 55], [114, 56], [114, 57], [114, 49, 48], [114, 49, 49], [114, 49, 50], [114, 49, 51], [114, 49, 52], [114, 49, 53]]
def regN (l : List UInt8) : Int := (idxN regWords l 1 : Int) - 1
theorem dec_lit (i : Nat) (hi : i < 16) : regWords[i]? = some (114 :: Lib.decDigits i) ∧ Lib.parseUintB 8 (Lib.decDigits i) = .ok i := by
  have hk : i = 0 ∨ i = 1 ∨ i = 2 ∨ i = 3 ∨ i = 4 ∨ i = 5 ∨ i = 6 ∨ i = 7 ∨ i = 8 ∨ i = 9 ∨ i = 10 ∨ i = 11 ∨ i = 12 ∨ i = 13 ∨ i = 14 ∨ i = 15 := by omega
  rcases hk with rfl | rfl | rfl | rfl | rfl | rfl | rfl | rfl | rfl | rfl | rfl | rfl | rfl | rfl | rfl | rfl <;> (refine ⟨by simp [regWords, Lib.decDigits], by simp [Lib.decDigits, Lib.parseUintB, Lib.parseUintM]⟩)
theorem dec_len (i : Nat) (hi : i < 16) : (Lib.decDigits i).length ≤ 2 := by
  have hk : i = 0 ∨ i = 1 ∨ i = 2 ∨ i = 3 ∨ i = 4 ∨ i = 5 ∨ i = 6 ∨ i = 7 ∨ i = 8 ∨ i = 9 ∨ i = 10 ∨ i = 11 ∨ i = 12 ∨ i = 13 ∨ i = 14 ∨ i = 15 := by omega
  rcases hk with rfl | rfl | rfl | rfl | rfl | rfl | rfl | rfl | rfl | rfl | rfl | rfl | rfl | rfl | rfl | rfl <;> simp [Lib.decDigits]
theorem cat_list (d : List UInt8) : (({ data := #[114] } : ByteArray) ++ ({ data := d.toArray } : ByteArray)).toList = 114 :: d := by
  rw [Lib.toList_data, Joins.data_append]; simp
theorem idxN_spec (l : List UInt8) : ∀ (ws : List (List UInt8)) (k : Nat), (∃ i, ws[i]? = some l ∧ idxN ws l k = k + i ∧ ∀ j, j < i → ws[j]? ≠ some l) ∨ ((∀ i : Nat, ws[i]? ≠ some l) ∧ idxN ws l k = 0)
  | [], k => .inr ⟨by simp, rfl⟩
  | w :: r, k => by
    by_cases h : w = l
    · exact .inl ⟨0, by simp [h], by simp [idxN, h], by omega⟩
    · rcases idxN_spec l r (k + 1) with ⟨i, h1, h2, h3⟩ | ⟨h1, h2⟩
      · refine .inl ⟨i + 1, by simpa using h1, by simp [idxN, h, h2]; omega, ?_⟩
        intro j hj
        cases j with
        | zero => simpa using h
        | succ j => simpa using h3 j (by omega)
      · refine .inr ⟨?_, by simp [idxN, h, h2]⟩
        intro i
        cases i with
        | zero => simpa using h
        | succ i => simpa using h1 i
theorem regN_cases (l : List UInt8) : (∃ i, i < 16 ∧ l = 114 :: Lib.decDigits i ∧ regN l = i) ∨ ((∀ i, i < 16 → l ≠ 114 :: Lib.decDigits i) ∧ regN l = -1) := by
  unfold regN
  rcases idxN_spec l regWords 1 with ⟨i, h1, h2, _⟩ | ⟨h1, h2⟩
  · have hi : i < 16 := by
      have := (List.getElem?_eq_some_iff.1 h1).1
      simpa [regWords] using this
    refine .inl ⟨i, hi, ?_, by rw [h2]; omega⟩
    have := (dec_lit i hi).1
    rw [h1] at this
    injection this
  · refine .inr ⟨?_, by rw [h2]; rfl⟩
    intro i hi e
    exact h1 i (by rw [(dec_lit i hi).1, e])
theorem regN_yes (d : List UInt8) (u : Nat) (hu : u < 16) (h : Lib.decDigits u = d) : regN (114 :: d) = u := by
  rcases regN_cases (114 :: d) with ⟨i, hi, he, hr⟩ | ⟨hn, _⟩
  · rw [hr]
    injection he with _ he
    have h1 := (dec_lit i hi).2
    have h2 := (dec_lit u hu).2
    rw [h, he, h1] at h2
    injection h2 with h2
    rw [h2]
  · exact absurd (by rw [h]) (hn u hu)
theorem regN_no (l : List UInt8) (h : ∀ i, i < 16 → l ≠ 114 :: Lib.decDigits i) : regN l = -1 := by
  rcases regN_cases l with ⟨i, hi, he, _⟩ | ⟨_, h⟩
  · exact absurd he (h i hi)
  · exact h

theorem regN_no_of (d : List UInt8) (h : ∀ i, i < 16 → d ≠ Lib.decDigits i) : regN (114 :: d) = -1 :=
  regN_no _ fun i hi e => h i hi (by injection e)

theorem cut_r (s : ByteArray) (w : World) : Calls Tryd.prog 59 #[.string s, .string ⟨#[114]⟩] w fun e w' => w = w' ∧ ∃ (d : ByteArray) (ok : Bool), e = .returned (.tuple #[.string d, .bool ok]) ∧ d.size ≤ s.size ∧ (ok = true → s.toList = 114 :: d.toList) ∧ (ok = false → ∀ x, s.toList ≠ 114 :: x) := by
  refine (Tryd.strings_CutPrefix s ⟨#[114]⟩ w).mono ?_
  rintro e w' ⟨rfl, rfl⟩
  refine ⟨rfl, _, _, rfl, ?_, ?_, ?_⟩
  · rw [Lib.size_eq s]
    show (Lib.trimPrefix s.data.toList [114]).length ≤ _
    unfold Lib.trimPrefix
    split <;> simp
  · intro h
    have h' : Lib.hasPrefix s.data.toList [114] = true := h
    rw [Lib.toList_data, Lib.toList_data]
    show _ = 114 :: Lib.trimPrefix s.data.toList [114]
    unfold Lib.trimPrefix
    rw [if_pos h']
    cases hh : s.data.toList with
    | nil => rw [hh] at h'; simp [Lib.hasPrefix] at h'
    | cons a r => rw [hh] at h'; simp [Lib.hasPrefix] at h'; simp [← h']
  · intro h x hx
    have h' : Lib.hasPrefix s.data.toList [114] = false := h
    rw [Lib.toList_data] at hx
    rw [hx] at h'
    simp [Lib.hasPrefix] at h'

set_option maxHeartbeats 400000 in
theorem register_any {B : Nat} (s : ByteArray) (hs : s.size ≤ 140737488355328) (w : World) (hB : B ≤ w.heap.size) (gv : GV B w) :
    Calls Tryd.prog 53 #[.string s] w fun e w' => e = .returned (.int .i64 (regN s.toList)) ∧ Below w.heap.size w w' := by
  go_enter Tryd.func53, Tryd.ntmps53
  go_wp2_with fail
  refine (cut_r s _).mono ?_
  rintro e w1 ⟨rfl, d, ok, rfl, hsz, hyes, hno⟩
  have HY := Lib.hid hyes; clear hyes
  have HN := Lib.hid hno; clear hno
  go_wp2_with fail
  refine (parse8 d (by omega) _ hB gv).mono ?_
  rintro e w1 ⟨u, er, rfl, hp, hb⟩
  cases ok with
  | false =>
    go_wp2_with fail
    go_ret
    exact ⟨ret_int (regN_no _ (fun i hi => HN.out (by trivial) _)).symm, hb⟩
  | true =>
    have hy := Lib.hid (HY.out rfl); clear HY HN
    unfold parsed at hp
    rcases h : Lib.parseUintB 8 d.data.toList with v | _ | _
    · rw [h] at hp
      obtain ⟨rfl, rfl⟩ := hp
      have Hp := Lib.hid h; clear h
      have hpv := Lib.hid (regN_no_of d.toList)
      by_cases hv : v < 16
      · have h16 : decide ((16 : Int) ≤ (v : Int)) = false := by simp; omega
        cases hd : (Lib.decDigits v == d.toList) with
        | true =>
          go_wp2_with fail
          refine (Tryd.strconv_Itoa_small v (by omega) _).mono ?_
          rintro e w2 ⟨rfl, rfl⟩
          go_wp2_with fail
          go_ret
          refine ⟨ret_int ?_, hb⟩
          rw [hy.out, regN_yes d.toList v hv (by simpa using hd)]
        | false =>
          go_wp2_with fail
          refine (Tryd.strconv_Itoa_small v (by omega) _).mono ?_
          rintro e w2 ⟨rfl, rfl⟩
          go_wp2_with fail
          go_ret
          refine ⟨ret_int ?_, hb⟩
          rw [hy.out, hpv.out (fun i hi e => ?_)]
          rw [Lib.toList_data] at e hd
          rw [e] at hd
          have h1 := Hp.out
          rw [e, (dec_lit i hi).2] at h1
          injection h1 with h1
          subst h1
          simp at hd
      · have h16 : decide ((16 : Int) ≤ (v : Int)) = true := by simp; omega
        go_wp2_with fail
        go_ret
        refine ⟨ret_int ?_, hb⟩
        rw [hy.out, hpv.out (fun i hi e => ?_)]
        rw [Lib.toList_data] at e
        have h1 := Hp.out
        rw [e, (dec_lit i hi).2] at h1
        injection h1 with h1
        omega
    all_goals
      rw [h] at hp
      obtain ⟨t, p, rfl⟩ := hp
      have Hp := Lib.hid h; clear h
      go_wp2_with fail
      go_ret
      refine ⟨ret_int ?_, hb⟩
      rw [hy.out, regN_no_of d.toList (fun i hi e => ?_)]
      rw [Lib.toList_data] at e
      have h1 := Hp.out
      rw [e, (dec_lit i hi).2] at h1
      cases h1

set_option maxHeartbeats 1000000 in
set_option maxRecDepth 100000 in
theorem refRegister_any (s : ByteArray) (w : World) :
    Calls Tryd.prog 49 #[.string s] w fun e w' => e = .returned (.int .i64 (regN s.toList)) ∧ Below w.heap.size w w' := by
  go_enter Tryd.func49, Tryd.ntmps49
  go_wp2_with fail
  go_loopw [3] (fun op wr => ∃ k : Nat, k ≤ 16 ∧ op = .int .i64 k ∧ (∀ i : Nat, i < k → s.toList ≠ 114 :: Lib.decDigits i) ∧ Below w.heap.size w wr) (fun op _ => 16 - (intOf op).toNat)
  case atStart => exact ⟨0, by omega, rfl, by omega, Below.refl _ _⟩
  case round =>
    obtain ⟨k, h1, rfl, hN, hb⟩ := hrel
    have HN := Lib.hid hN; clear hN
    by_cases hk : k < 16
    · have hl : (Lib.decDigits k).length ≤ 2 := dec_len k hk
      have HE := Lib.hid (cat_list (Lib.decDigits k))
      cases he : (s.toList == (({ data := #[114] } : ByteArray) ++ ({ data := (Lib.decDigits k).toArray } : ByteArray)).toList) with
      | true =>
        go_wp2_with fail
        refine (Tryd.strconv_Itoa_small k (by omega) _).mono ?_
        rintro e w2 ⟨rfl, rfl⟩
        go_wp2_with fail
        go_ret
        refine ⟨ret_int ?_, hb⟩
        have := regN_yes _ k hk rfl
        rw [← this]
        congr 1
        rw [HE.out] at he
        simpa using (by simpa using he : s.toList = 114 :: Lib.decDigits k).symm
      | false =>
        go_wp2_with fail
        refine (Tryd.strconv_Itoa_small k (by omega) _).mono ?_
        rintro e w2 ⟨rfl, rfl⟩
        go_wp2_with fail
        go_roundw
        case rel =>
          refine ⟨k + 1, by omega, by go_num, fun i hi e => ?_, hb⟩
          by_cases hik : i = k
          · subst hik
            rw [HE.out, e] at he
            simp at he
          · exact HN.out i (by omega) e
        case measure => simp [intOf]; omega
    · obtain rfl : k = 16 := by omega
      go_wp2_with fail
      go_ret
      exact ⟨ret_int (regN_no _ HN.out).symm, hb⟩
end Go.Proofs.YtknnbckmdfnmaaaDoor
