/-
  A chain as a value; are two the same? No condition.
-/
import Derived.Test.YtcogbepdjegheaaRxC
namespace Go.Proofs.Ytcogbepdjegheaa

structure ChM where
  epoch : Int
  mem : List (Int × Int)
  drain : Int
def chV (c : ChM) (q : Value) : Value := .agg #[.int .i64 c.epoch, q, .int .i64 c.drain]
def chS (c : ChM) (q : SV) : SV := .agg [.v (.int .i64 c.epoch), q, .v (.int .i64 c.drain)]
def memF (ms : List (Int × Int)) : Nat → Nat → Value := fun r c => if c = 0 then .int .i64 (ms.getD r (0, 0)).1 else .int .i64 (ms.getD r (0, 0)).2
def sameCh (a b : ChM) : Bool := (a.epoch == b.epoch) && ((a.drain == b.drain) && (a.mem == b.mem))
/-- A chain's value, with the rows that its members are. -/
abbrev ChSl (w : World) (p : Value) (c : ChM) : Prop := SliceV w p 2 c.mem.length (memF c.mem)
theorem mem_ext {zs ys : List (Int × Int)} (hl : zs.length = ys.length) (h : ∀ j, j < zs.length → zs.getD j (0, 0) = ys.getD j (0, 0)) : zs = ys := by
  apply List.ext_getElem hl
  intro j h1 h2
  have := h j h1
  simpa [List.getD, h1, h2] using this
theorem SliceV.congr {w : World} {v : Value} {sz n : Nat} {f g : Nat → Nat → Value} (h : SliceV w v sz n f) (hf : ∀ r c, r < n → c < sz → f r c = g r c) : SliceV w v sz n g := by
  obtain ⟨a, cap, h0, h1, h2, h3⟩ := h
  refine ⟨a, cap, h0, h1, h2, fun hn => ?_⟩
  obtain ⟨b, off, h4, h5, h6⟩ := h3 hn
  exact ⟨b, off, h4, h5, fun r c hr hc => by rw [h6 r c hr hc, hf r c hr hc]⟩
end Go.Proofs.Ytcogbepdjegheaa
