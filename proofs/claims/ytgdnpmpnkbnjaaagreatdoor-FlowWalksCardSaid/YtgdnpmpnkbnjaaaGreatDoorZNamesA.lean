/- Contracts of the small functions on words: operations, declarations' words, forms. No condition but that an operation lies in its range. -/
import Derived.Test.YtgdnpmpnkbnjaaaGreatDoorZMem
namespace Go.Proofs.YtgdnpmpnkbnjaaaGreatDoor
open Go.RowKit

def kindN (l : List UInt8) : Nat :=
  if [118, 97, 114] = l then 1 else if [118, 111, 108] = l then 2 else if [109, 117, 116, 101, 120] = l then 3 else if [103, 97, 116, 101] = l then 4 else if [116, 104, 114, 101, 97, 100] = l then 5 else 0
def opWords : List (List UInt8) := [[99, 111, 110, 115, 116], [109, 111, 118, 101], [97, 100, 100], [115, 117, 98], [109, 117, 108], [108, 101, 115, 115], [101, 113, 117, 97, 108], [106, 117, 109, 112], [122, 101, 114, 111], [112, 114, 105, 110, 116], [114, 101, 97, 100], [119, 114, 105, 116, 101], [108, 111, 111, 107], [115, 101, 116], [108, 111, 99, 107], [117, 110, 108, 111, 99, 107], [102, 111, 114, 107], [106, 111, 105, 110], [98, 97, 114, 114, 105, 101, 114], [101, 120, 105, 116]]
def idxN : List (List UInt8) → List UInt8 → Nat → Nat
  | [], _, _ => 0
  | w :: r, l, k => if w = l then k else idxN r l (k + 1)
def opN (l : List UInt8) : Nat := idxN opWords l 1

end Go.Proofs.YtgdnpmpnkbnjaaaGreatDoor
