/- Contracts of flow.Surely and flow.Perhaps. Conditions: those of asked. -/
import Derived.Test.YtgdnpmpnkbnjaaaGreatDoorZHeldS
import Derived.Test.YtgdnpmpnkbnjaaaGreatDoorZHeldP
namespace Go.Proofs.YtgdnpmpnkbnjaaaGreatDoor
open Go.RowKit

theorem LLn.less {B B' : Nat} {W : World} {A : Option Addr} {ls : List (List Nat)} (h : LLn B W A ls) (hB : B' ≤ B) : LLn B' W A ls := by
  intro i l hl
  obtain ⟨g, e, h1, h2, A', c', h3, h4, h5⟩ := h i l hl
  exact ⟨g, e, by omega, h2, A', c', h3, h4, fun g e => Nat.le_trans hB (h5 g e)⟩
set_option maxRecDepth 100000 in
set_option maxHeartbeats 1000000 in
theorem surely_any (p : Prg) (th : Int) (w : World) (hE : Env p w) : Calls Tryz.prog 19 #[p.val, .int .i64 th] w (HeldPost (· &&& ·) p th w) := by
  have HE := Lib.hid hE; clear hE
  have hb0 : Hid (Below w.heap.size w (w.alloc (.cells p.cells 27))) := Lib.hid (by go_grown)
  unfold Prg.val
  go_enter Tryz.func19, Tryz.ntmps19
  go_wp2_with (go_at_call 37; refine (held_surely meet_and surely_meet p th (w.alloc (.cells p.cells 27)) (HE.out.keep hb0.out)).mono ?_; rintro e w1 ⟨A, c, ls, rfl, h1, h2, h3⟩; have H1 := Lib.hid h1; have H2 := Lib.hid h2; have H3 := Lib.hid h3; clear h1 h2 h3)
  go_ret2
  exact ⟨A, c, ls, rfl, H1.out, H2.out.less hb0.out.size, hb0.out.trans (H3.out.mono (by simp))⟩
set_option maxRecDepth 100000 in
set_option maxHeartbeats 1000000 in
theorem perhaps_any (p : Prg) (th : Int) (w : World) (hE : Env p w) : Calls Tryz.prog 20 #[p.val, .int .i64 th] w (HeldPost (· ||| ·) p th w) := by
  have HE := Lib.hid hE; clear hE
  have hb0 : Hid (Below w.heap.size w (w.alloc (.cells p.cells 27))) := Lib.hid (by go_grown)
  unfold Prg.val
  go_enter Tryz.func20, Tryz.ntmps20
  go_wp2_with (go_at_call 37; refine (held_perhaps meet_or perhaps_meet p th (w.alloc (.cells p.cells 27)) (HE.out.keep hb0.out)).mono ?_; rintro e w1 ⟨A, c, ls, rfl, h1, h2, h3⟩; have H1 := Lib.hid h1; have H2 := Lib.hid h2; have H3 := Lib.hid h3; clear h1 h2 h3)
  go_ret2
  exact ⟨A, c, ls, rfl, H1.out, H2.out.less hb0.out.size, hb0.out.trans (H3.out.mono (by simp))⟩
end Go.Proofs.YtgdnpmpnkbnjaaaGreatDoor
