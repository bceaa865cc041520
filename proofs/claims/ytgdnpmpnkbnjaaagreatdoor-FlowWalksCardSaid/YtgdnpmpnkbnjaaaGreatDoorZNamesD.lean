/- Contracts of the functions that tell registers, on both sides, and of parse.Word. Condition: the package variables strconv.ErrSyntax and strconv.ErrRange hold nil or an error (GV), strings are not longer than 2^47 bytes. -/
import Derived.Test.YtgdnpmpnkbnjaaaGreatDoorZC
import Derived.Test.YtgdnpmpnkbnjaaaGreatDoorZShelf
namespace Go.Proofs.YtgdnpmpnkbnjaaaGreatDoor
open Go.RowKit

/-- the two package variables that strconv's errors read -/
def GV (B : Nat) (w : World) : Prop :=
  1 < B ∧ 2 < B ∧ (∃ e, w.cell? ⟨1, 0, none⟩ = some e ∧ (e = .nilIface ∨ ∃ te pe, e = .iface te pe)) ∧ (∃ e, w.cell? ⟨2, 0, none⟩ = some e ∧ (e = .nilIface ∨ ∃ te pe, e = .iface te pe))
theorem GV.below {B : Nat} {w w' : World} (h : GV B w) (hb : Below B w w') : GV B w' := by
  obtain ⟨h0, h1, ⟨e, he, e'⟩, ⟨f, hf, f'⟩⟩ := h
  exact ⟨h0, h1, ⟨e, (hb.cell (p := ⟨_, 0, none⟩) h0).trans he, e'⟩, ⟨f, (hb.cell (p := ⟨_, 0, none⟩) h1).trans hf, f'⟩⟩

def parsed (l : List UInt8) (u : Int) (er : Value) : Prop :=
  match Lib.parseUintB 8 l with
  | .ok v => u = v ∧ er = .nilIface
  | _ => ∃ t p, er = .iface t (.pointer (some ⟨p, 0, none⟩))

theorem parse8 {B : Nat} (s : ByteArray) (hs : s.size ≤ 140737488355328) (w : World) (hB : B ≤ w.heap.size) (gv : GV B w) :
    Calls Tryz.prog 94 #[.string s, .int .i64 10, .int .i64 8] w fun e w' => ∃ u er, e = .returned (.tuple #[.int .u64 u, er]) ∧ parsed s.data.toList u er ∧ Below w.heap.size w w' := by
  obtain ⟨_, _, ⟨e, he, e'⟩, ⟨f, hf, f'⟩⟩ := gv
  unfold parsed
  rcases h : Lib.parseUintB 8 s.data.toList with v | _ | _
  · refine (Any.strconv_ParseUint_10_at8_ok Tryz.laysPu14 s (by omega) v h w).mono ?_
    rintro _ w' ⟨rfl, rfl | rfl⟩
    · exact ⟨_, _, rfl, ⟨rfl, rfl⟩, Below.refl _ _⟩
    · exact ⟨_, _, rfl, ⟨rfl, rfl⟩, Lib.bytesWorld_below _ _ _⟩
  · refine (Any.strconv_ParseUint_10_at8_syntax Tryz.laysPu14 s (by omega) h e w he e').mono ?_
    rintro _ w' ⟨N, rfl, _, _, hb⟩
    exact ⟨_, _, rfl, ⟨_, _, rfl⟩, hb⟩
  · refine (Any.strconv_ParseUint_10_at8_range Tryz.laysPu14 s (by omega) h f w hf f').mono ?_
    rintro _ w' ⟨N, rfl, _, _, hb⟩
    exact ⟨_, _, rfl, ⟨_, _, rfl⟩, hb⟩
end Go.Proofs.YtgdnpmpnkbnjaaaGreatDoor
