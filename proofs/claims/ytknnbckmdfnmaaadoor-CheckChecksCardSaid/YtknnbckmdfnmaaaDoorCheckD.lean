/- What check.Check says, as plain Lean. -/
import Derived.Test.YtknnbckmdfnmaaaDoorThread
namespace Go.Proofs.YtknnbckmdfnmaaaDoor
open Go.RowKit

def scanB : List Nam → Nat → Option Nat
  | [], _ => none
  | b :: r, i => if b.num < 1 ∨ 65535 < b.num then some i else scanB r (i + 1)
noncomputable def scanT (cnt : Nat → Nat) : List Thr → Nat → Nat → Option (Int × Nat × Nat)
  | [], _, _ => none
  | t :: r, i, sum =>
    if t.code.length = 0 ∨ 4096 < t.code.length ∨ 262144 < sum + t.code.length then some (114, i, 0) else
    if (threadR t cnt).1 = 0 then scanT cnt r (i + 1) (sum + t.code.length) else some ((threadR t cnt).1, i, (threadR t cnt).2)
def Prg.cnt (p : Prg) : Nat → Nat := fun k => (p.names k).length
def Prg.part0 (p : Prg) : Nat := cntPart p.vars.length p.vols.length p.locks.length p.bars.length p.threads.length
structure Spot where
  e : Int
  part : Int
  num : Int
  at_ : Int
deriving DecidableEq
def Spot.val (s : Spot) : Value := spotV s.e s.part s.num s.at_
noncomputable def Prg.check (p : Prg) : Spot :=
  if p.part0 ≠ 0 then ⟨110, p.part0, 0, 0⟩ else
  match scanP p.names 6 0 [] with
  | some (e, a, i) => ⟨e, a, i, 0⟩
  | none =>
    match scanB p.bars 0 with
    | some i => ⟨113, 4, i, 0⟩
    | none =>
      match scanT p.cnt p.threads 0 0 with
      | some (e, i, a) => ⟨e, 5, i, a⟩
      | none => ⟨0, 0, 0, 0⟩
section
variable {p : Prg}
theorem check_cnt (h : p.part0 ≠ 0) : p.check = ⟨110, p.part0, 0, 0⟩ := by unfold Prg.check; rw [if_pos h]
theorem check_scan (h : p.part0 = 0) {e : Int} {a i : Nat} (hs : scanP p.names 6 0 [] = some (e, a, i)) : p.check = ⟨e, a, i, 0⟩ := by unfold Prg.check; rw [if_neg (by simpa using h), hs]
theorem check_bar (h : p.part0 = 0) (hs : scanP p.names 6 0 [] = none) {i : Nat} (hb : scanB p.bars 0 = some i) : p.check = ⟨113, 4, i, 0⟩ := by unfold Prg.check; rw [if_neg (by simpa using h), hs, hb]
theorem check_thr (h : p.part0 = 0) (hs : scanP p.names 6 0 [] = none) (hb : scanB p.bars 0 = none) {e : Int} {i a : Nat} (ht : scanT p.cnt p.threads 0 0 = some (e, i, a)) : p.check = ⟨e, 5, i, a⟩ := by
  unfold Prg.check; rw [if_neg (by simpa using h), hs, hb, ht]
theorem check_ok (h : p.part0 = 0) (hs : scanP p.names 6 0 [] = none) (hb : scanB p.bars 0 = none) (ht : scanT p.cnt p.threads 0 0 = none) : p.check = ⟨0, 0, 0, 0⟩ := by
  unfold Prg.check; rw [if_neg (by simpa using h), hs, hb, ht]
end
def Prg.Ops (p : Prg) : Prop := ∀ t ∈ p.threads, ∀ x ∈ t.code, (Lit.int .i64 x.op).wf = true
theorem cntPart_lt {n1 n2 n3 n4 n5 : Nat} (h : cntPart n1 n2 n3 n4 n5 = 0) : n1 ≤ 4096 ∧ n2 ≤ 4096 ∧ n3 ≤ 4096 ∧ n4 ≤ 4096 ∧ 1 ≤ n5 ∧ n5 ≤ 65535 := by
  unfold cntPart at h
  repeat' (split at h)
  all_goals first | omega | (cases h)
theorem GV.more {B B' : Nat} {w : World} (h : GV B w) (hB : B ≤ B') : GV B' w := by
  obtain ⟨h0, h1, h2, h3⟩ := h
  exact ⟨by omega, by omega, h2, h3⟩
theorem scanL_err {part : Nat} : ∀ {l : List ByteArray} {i : Nat} {seen seen' : List (List UInt8)} {e : Int} {a b : Nat}, scanL part l i seen = (some (e, a, b), seen') → e = 111 ∨ e = 112 := by
  intro l
  induction l with
  | nil => intro i seen seen' e a b h; cases h
  | cons s r ih =>
    intro i seen seen' e a b h
    unfold scanL at h
    split at h
    · exact .inl (Prod.mk.inj (Option.some.inj (Prod.mk.inj h).1)).1.symm
    split at h
    · exact .inr (Prod.mk.inj (Option.some.inj (Prod.mk.inj h).1)).1.symm
    · exact ih h
theorem scanP_err {N : Nat → List ByteArray} : ∀ {m part : Nat} {seen : List (List UInt8)} {e : Int} {a b : Nat}, scanP N m part seen = some (e, a, b) → e = 111 ∨ e = 112 := by
  intro m
  induction m with
  | zero => intro part seen e a b h; cases h
  | succ m ih =>
    intro part seen e a b h
    unfold scanP at h
    split at h
    · next x seen' heq =>
      obtain rfl : x = (e, a, b) := Option.some.inj h
      exact scanL_err heq
    · exact ih h
/-- the five lists behind one block -/
def five (A1 A2 A3 A4 A5 : Option Addr) : Nat → Option Addr
  | 1 => A1
  | 2 => A2
  | 3 => A3
  | 4 => A4
  | 5 => A5
  | _ => none
def fiveC (c1 c2 c3 c4 c5 : Nat) : Nat → Nat
  | 1 => c1
  | 2 => c2
  | 3 => c3
  | 4 => c4
  | 5 => c5
  | _ => 0
theorem allIn_of {p : Prg} {w : World} {B ga : Nat} {A1 A2 A3 A4 A5 : Option Addr} {c1 c2 c3 c4 c5 : Nat} (hb : Blk w ga 69 #[ns, .slice A1 p.vars.length c1, .slice A2 p.vols.length c2, .slice A3 p.locks.length c3, .slice A4 p.bars.length c4, .slice A5 p.threads.length c5]) (hg : ga < B)
    (h1 : RdL encS 1 w B A1 (p.names 1)) (h2 : RdL encS 1 w B A2 (p.names 2)) (h3 : RdL encS 1 w B A3 (p.names 3)) (h4 : RdL encS 1 w B A4 (p.names 4)) (h5 : RdL encS 1 w B A5 (p.names 5)) :
    AllIn w B ga (five A1 A2 A3 A4 A5) (fiveC c1 c2 c3 c4 c5) p.names := by
  have hk6 : ∀ k, k < 6 → k = 0 ∨ k = 1 ∨ k = 2 ∨ k = 3 ∨ k = 4 ∨ k = 5 := by omega
  refine ⟨fun k hk => ?_, fun k hk => ?_, hg⟩
  · rw [hb.cell]
    rcases hk6 k hk with rfl | rfl | rfl | rfl | rfl | rfl
    all_goals simp [Prg.names, five, fiveC]
  · rcases hk6 k hk with rfl | rfl | rfl | rfl | rfl | rfl
    · intro hne; exact absurd rfl hne
    · exact h1
    · exact h2
    · exact h3
    · exact h4
    · exact h5
theorem names_size {p : Prg} (hf : p.Fits) : ∀ k, k < 6 → ∀ s ∈ p.names k, s.size ≤ 140737488355328 := by
  have hk6 : ∀ k, k < 6 → k = 0 ∨ k = 1 ∨ k = 2 ∨ k = 3 ∨ k = 4 ∨ k = 5 := by omega
  intro k hk s hs
  rcases hk6 k hk with rfl | rfl | rfl | rfl | rfl | rfl
  · cases hs
  · obtain ⟨x, hx, rfl⟩ := List.mem_map.1 hs; exact hf.nvars x hx
  · obtain ⟨x, hx, rfl⟩ := List.mem_map.1 hs; exact hf.nvols x hx
  · exact hf.nlocks s hs
  · obtain ⟨x, hx, rfl⟩ := List.mem_map.1 hs; exact hf.nbars x hx
  · obtain ⟨x, hx, rfl⟩ := List.mem_map.1 hs; exact (hf.fthreads x hx).name
theorem names_len {p : Prg} (h : p.part0 = 0) : ∀ k, k < 6 → (p.names k).length ≤ 65535 := by
  have hk6 : ∀ k, k < 6 → k = 0 ∨ k = 1 ∨ k = 2 ∨ k = 3 ∨ k = 4 ∨ k = 5 := by omega
  obtain ⟨h1, h2, h3, h4, h5, h6⟩ := cntPart_lt h
  intro k hk
  rcases hk6 k hk with rfl | rfl | rfl | rfl | rfl | rfl
  all_goals simp [Prg.names]
  all_goals omega
end Go.Proofs.YtknnbckmdfnmaaaDoor
