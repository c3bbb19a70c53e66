/-
  The library's contracts, laid at this program: slices.Clone, slices.Equal at []int. No condition.
-/
import Derived.Shelf.Lay
import Derived.Shelf.LaySoft
import Derived.Shelf.Slices.Clone
import Derived.Shelf.Slices.Equal
import Derived.Shelf.Slices.Empties2
import Derived.Test.YtcogbepdjegheaaProg
namespace Go.Proofs
open Go.Shelf
shelf_lay Lays2.n15 Nm2 15 at Try as Ytcogbepdjegheaa.layClone
open Go.RowKit Go.Lib
theorem Ytcogbepdjegheaa.clone_int (b off n c : Nat) (zs : List Int) (w : World) (hz : n ≤ zs.length) (hbig : n * 8 ≤ 140737488355328) (hc : ∀ j, j < zs.length → w.cell? ⟨b, off + j, none⟩ = some (.int .i64 (zs.getD j 0))) :
    Calls Try.prog 52 #[.slice (some ⟨b, off, none⟩) n c] w fun e w' => ∃ v', e = .returned v' ∧ w'.ownsRow w.heap.size 3 1 v' n ((zs.take n).map (Value.int .i64)) ∧ v' ≠ .slice none 0 0 ∧ Below w.heap.size w w' :=
  Any.slices_Clone_int Ytcogbepdjegheaa.layClone b off n c zs w hz hbig hc
theorem Ytcogbepdjegheaa.clone_int_nil (n c : Nat) (w : World) : Calls Try.prog 52 #[.slice none n c] w fun e w' => e = .returned (.slice none 0 0) ∧ w' = w := Any.slices_Clone_int_nil Ytcogbepdjegheaa.layClone n c w
theorem Ytcogbepdjegheaa.clone_int_zero (a : Addr) (c : Nat) (w : World) : Calls Try.prog 52 #[.slice (some a) 0 c] w fun e w' =>
    ∃ v', e = .returned v' ∧ w'.ownsRow w.heap.size 3 1 v' 0 [] ∧ v' ≠ .slice none 0 0 ∧ Below w.heap.size w w' := Any.slices_Clone_int_zero Ytcogbepdjegheaa.layClone a c w
shelf_lay Lays.n111 Nm 111 at Try as Ytcogbepdjegheaa.layEqual
theorem Ytcogbepdjegheaa.equal_int (b1 o1 n c b2 o2 m d : Nat) (xs ys : List Int) (w : World) (hx : n ≤ xs.length) (hy : m ≤ ys.length) (hbig : n ≤ 9223372036854775807) (hbig2 : m ≤ 9223372036854775807)
    (hc1 : ∀ j, j < xs.length → w.cell? ⟨b1, o1 + j, none⟩ = some (.int .i64 (xs.getD j 0))) (hc2 : ∀ j, j < ys.length → w.cell? ⟨b2, o2 + j, none⟩ = some (.int .i64 (ys.getD j 0))) :
    Calls Try.prog 54 #[.slice (some ⟨b1, o1, none⟩) n c, .slice (some ⟨b2, o2, none⟩) m d] w fun e w' => e = .returned (.bool (xs.take n == ys.take m)) ∧ ∃ q, w' = w.drewN q :=
  Any.slices_Equal_int Ytcogbepdjegheaa.layEqual b1 o1 n c b2 o2 m d xs ys w hx hy hbig hbig2 hc1 hc2
theorem Ytcogbepdjegheaa.equal_int_empty (a1 a2 : Option Addr) (c m d : Nat) (w : World) (hbig2 : m ≤ 9223372036854775807) :
    Calls Try.prog 54 #[.slice a1 0 c, .slice a2 m d] w fun e w' => e = .returned (.bool (decide (m = 0))) ∧ w' = w := Any.slices_Equal_int_empty Ytcogbepdjegheaa.layEqual a1 a2 c m d w hbig2
theorem Ytcogbepdjegheaa.equal_int_lens (a1 a2 : Option Addr) (n c m d : Nat) (w : World) (hnm : n ≠ m) :
    Calls Try.prog 54 #[.slice a1 n c, .slice a2 m d] w fun e w' => e = .returned (.bool false) ∧ w' = w := Any.slices_Equal_int_lens Ytcogbepdjegheaa.layEqual a1 a2 n c m d w hnm
end Go.Proofs
