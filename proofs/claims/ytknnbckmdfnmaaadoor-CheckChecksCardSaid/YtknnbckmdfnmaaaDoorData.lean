/- The given program's data (api.Program and its parts) as Lean data, and how they lie in memory. No condition. -/
import Derived.Test.YtknnbckmdfnmaaaDoorMemB
namespace Go.Proofs.YtknnbckmdfnmaaaDoor
open Go.RowKit

structure Ins where
  op : Int
  a : Int
  b : Int
  c : Int
  n : Int
deriving DecidableEq
structure Pla where
  line : Int
  col : Int
deriving DecidableEq
/-- api.Var (a name and the first value), api.Barrier (a name and how many parties) -/
structure Nam where
  name : ByteArray
  num : Int
/-- api.Thread, with the addresses and capacities of its lists -/
structure Thr where
  name : ByteArray
  Ac : Option Addr
  cc : Nat
  code : List Ins
  Ap : Option Addr
  cp : Nat
  places : List Pla
structure Prg where
  Av : Option Addr
  cv : Nat
  vars : List Nam
  Ao : Option Addr
  co : Nat
  vols : List Nam
  Al : Option Addr
  cl : Nat
  locks : List ByteArray
  Ab : Option Addr
  cb : Nat
  bars : List Nam
  At : Option Addr
  ct : Nat
  threads : List Thr

def encI (x : Ins) : List Value := [.int .i64 x.op, .int .i64 x.a, .int .i64 x.b, .int .i64 x.c, .int .i64 x.n]
def encP (x : Pla) : List Value := [.int .i64 x.line, .int .i64 x.col]
def encN (x : Nam) : List Value := [.string x.name, .int .i64 x.num]
def encS (x : ByteArray) : List Value := [.string x]
def encZ (x : Int) : List Value := [.int .i64 x]
def Thr.cells (t : Thr) : List Value := [.string t.name, .slice t.Ac t.code.length t.cc, .slice t.Ap t.places.length t.cp]
def Ins.val (x : Ins) : Value := .agg #[.int .i64 x.op, .int .i64 x.a, .int .i64 x.b, .int .i64 x.c, .int .i64 x.n]
def Pla.val (x : Pla) : Value := .agg #[.int .i64 x.line, .int .i64 x.col]
def Thr.val (t : Thr) : Value := .agg #[.string t.name, .slice t.Ac t.code.length t.cc, .slice t.Ap t.places.length t.cp]
def Prg.val (p : Prg) : Value := .agg #[.slice p.Av p.vars.length p.cv, .slice p.Ao p.vols.length p.co, .slice p.Al p.locks.length p.cl, .slice p.Ab p.bars.length p.cb, .slice p.At p.threads.length p.ct]

/-- how large what is read may be: no name, no list takes more than 2^47 bytes; the capacities bear the lengths -/
structure Thr.Fits (t : Thr) : Prop where
  name : t.name.size ≤ 140737488355328
  code : t.code.length * 40 ≤ 140737488355328
  places : t.places.length * 16 ≤ 140737488355328
  cc : t.code.length ≤ t.cc
  cp : t.places.length ≤ t.cp
structure Prg.Fits (p : Prg) : Prop where
  vars : p.vars.length * 24 ≤ 140737488351232
  vols : p.vols.length * 24 ≤ 140737488351232
  locks : p.locks.length * 16 ≤ 140737488351232
  bars : p.bars.length * 24 ≤ 140737488351232
  threads : p.threads.length * 64 ≤ 140737488351232
  cv : p.vars.length ≤ p.cv
  co : p.vols.length ≤ p.co
  cl : p.locks.length ≤ p.cl
  cb : p.bars.length ≤ p.cb
  ct : p.threads.length ≤ p.ct
  nvars : ∀ x ∈ p.vars, x.name.size ≤ 140737488355328
  nvols : ∀ x ∈ p.vols, x.name.size ≤ 140737488355328
  nlocks : ∀ x ∈ p.locks, x.size ≤ 140737488355328
  nbars : ∀ x ∈ p.bars, x.name.size ≤ 140737488355328
  fthreads : ∀ t ∈ p.threads, t.Fits
/-- a thread's lists lie in memory, below block B -/
structure Thr.In (w : World) (B : Nat) (t : Thr) : Prop where
  code : RdL encI 5 w B t.Ac t.code
  places : RdL encP 2 w B t.Ap t.places
structure Prg.In (w : World) (B : Nat) (p : Prg) : Prop where
  vars : RdL encN 2 w B p.Av p.vars
  vols : RdL encN 2 w B p.Ao p.vols
  locks : RdL encS 1 w B p.Al p.locks
  bars : RdL encN 2 w B p.Ab p.bars
  threads : RdL Thr.cells 3 w B p.At p.threads
  thr : ∀ t ∈ p.threads, t.In w B
section
variable {w w' : World} {B B' : Nat}
theorem Thr.In.below {t : Thr} (h : t.In w B) (hb : Below B w w') : t.In w' B := ⟨h.code.below hb, h.places.below hb⟩
theorem Thr.In.more {t : Thr} (h : t.In w B) (hB : B ≤ B') : t.In w B' := ⟨h.code.more hB, h.places.more hB⟩
theorem Prg.In.below {p : Prg} (h : p.In w B) (hb : Below B w w') : p.In w' B :=
  ⟨h.vars.below hb, h.vols.below hb, h.locks.below hb, h.bars.below hb, h.threads.below hb, fun t ht => (h.thr t ht).below hb⟩
theorem Prg.In.more {p : Prg} (h : p.In w B) (hB : B ≤ B') : p.In w B' :=
  ⟨h.vars.more hB, h.vols.more hB, h.locks.more hB, h.bars.more hB, h.threads.more hB, fun t ht => (h.thr t ht).more hB⟩

theorem RdL.ins {A : Option Addr} {l : List Ins} (h : RdL encI 5 w B A l) {k : Nat} {x : Ins} (hk : l[k]? = some x) :
    ∃ g off, A = some ⟨g, off, none⟩ ∧ g < B ∧ w.cell? ⟨g, off + k * 5, none⟩ = some (.int .i64 x.op) ∧ w.cell? ⟨g, off + k * 5 + 1, none⟩ = some (.int .i64 x.a) ∧
      w.cell? ⟨g, off + k * 5 + 2, none⟩ = some (.int .i64 x.b) ∧ w.cell? ⟨g, off + k * 5 + 3, none⟩ = some (.int .i64 x.c) ∧ w.cell? ⟨g, off + k * 5 + 4, none⟩ = some (.int .i64 x.n) := by
  obtain ⟨g, off, e, hg, hc⟩ := h.at_ hk
  exact ⟨g, off, e, hg, hc 0 _ rfl, hc 1 _ rfl, hc 2 _ rfl, hc 3 _ rfl, hc 4 _ rfl⟩
theorem RdL.pla {A : Option Addr} {l : List Pla} (h : RdL encP 2 w B A l) {k : Nat} {x : Pla} (hk : l[k]? = some x) :
    ∃ g off, A = some ⟨g, off, none⟩ ∧ g < B ∧ w.cell? ⟨g, off + k * 2, none⟩ = some (.int .i64 x.line) ∧ w.cell? ⟨g, off + k * 2 + 1, none⟩ = some (.int .i64 x.col) := by
  obtain ⟨g, off, e, hg, hc⟩ := h.at_ hk
  exact ⟨g, off, e, hg, hc 0 _ rfl, hc 1 _ rfl⟩
theorem RdL.nam {A : Option Addr} {l : List Nam} (h : RdL encN 2 w B A l) {k : Nat} {x : Nam} (hk : l[k]? = some x) :
    ∃ g off, A = some ⟨g, off, none⟩ ∧ g < B ∧ w.cell? ⟨g, off + k * 2, none⟩ = some (.string x.name) ∧ w.cell? ⟨g, off + k * 2 + 1, none⟩ = some (.int .i64 x.num) := by
  obtain ⟨g, off, e, hg, hc⟩ := h.at_ hk
  exact ⟨g, off, e, hg, hc 0 _ rfl, hc 1 _ rfl⟩
theorem RdL.str {A : Option Addr} {l : List ByteArray} (h : RdL encS 1 w B A l) {k : Nat} {x : ByteArray} (hk : l[k]? = some x) :
    ∃ g off, A = some ⟨g, off, none⟩ ∧ g < B ∧ w.cell? ⟨g, off + k, none⟩ = some (.string x) := by
  obtain ⟨g, off, e, hg, hc⟩ := h.at_ hk
  exact ⟨g, off, e, hg, by simpa using hc 0 _ rfl⟩
theorem RdL.num {A : Option Addr} {l : List Int} (h : RdL encZ 1 w B A l) {k : Nat} {x : Int} (hk : l[k]? = some x) :
    ∃ g off, A = some ⟨g, off, none⟩ ∧ g < B ∧ w.cell? ⟨g, off + k, none⟩ = some (.int .i64 x) := by
  obtain ⟨g, off, e, hg, hc⟩ := h.at_ hk
  exact ⟨g, off, e, hg, by simpa using hc 0 _ rfl⟩
theorem RdL.thr {A : Option Addr} {l : List Thr} (h : RdL Thr.cells 3 w B A l) {k : Nat} {x : Thr} (hk : l[k]? = some x) :
    ∃ g off, A = some ⟨g, off, none⟩ ∧ g < B ∧ w.cell? ⟨g, off + k * 3, none⟩ = some (.string x.name) ∧ w.cell? ⟨g, off + k * 3 + 1, none⟩ = some (.slice x.Ac x.code.length x.cc) ∧
      w.cell? ⟨g, off + k * 3 + 2, none⟩ = some (.slice x.Ap x.places.length x.cp) := by
  obtain ⟨g, off, e, hg, hc⟩ := h.at_ hk
  exact ⟨g, off, e, hg, hc 0 _ rfl, hc 1 _ rfl, hc 2 _ rfl⟩
end
theorem get_mem {α : Type} {l : List α} {k : Nat} {x : α} (h : l[k]? = some x) : x ∈ l := List.mem_of_getElem? h

/-- the names of the five lists, by their numbers (0: none) -/
def Prg.names (p : Prg) : Nat → List ByteArray
  | 1 => p.vars.map (·.name)
  | 2 => p.vols.map (·.name)
  | 3 => p.locks
  | 4 => p.bars.map (·.name)
  | 5 => p.threads.map (·.name)
  | _ => []
end Go.Proofs.YtknnbckmdfnmaaaDoor
