/-
  The acts of a master, as they come in; a list's rows with what is known of each. The laws of the master: their arguments, read. How an argument reads, cell by cell: arrays. No condition.
-/
import Derived.Test.YtghfigeepnbjaaaP7
import Derived.Test.YtghfigeepnbjaaaP5
import Derived.Test.YtghfigeepnbjaaaPD
namespace Go.Proofs.Ytghfigeepnbjaaa
structure ActMM where
  kind : Int
  a : Int
  b : Int
  frm : Int
  f : FrM
  fa : Option Addr
  fc : Nat
abbrev ActMM.q (x : ActMM) : Value := .slice x.fa x.f.ch.mem.length x.fc
def actMC (x : ActMM) : List Value := .int .u8 x.kind :: .int .u8 x.a :: .int .u8 x.b :: .int .i64 x.frm :: frC x.f x.q
def actMZ : ActMM := ⟨0, 0, 0, 0, frZ, none, 0⟩
abbrev actMF (l : List ActMM) : Nat → Nat → Value := rowsF actMC actMZ l
structure ActMM.wf (w : World) (x : ActMM) : Prop where
  kind : 0 ≤ x.kind ∧ x.kind ≤ 255
  a : 0 ≤ x.a ∧ x.a ≤ 255
  b : 0 ≤ x.b ∧ x.b ≤ 255
  ch : ChSl w x.q x.f.ch
end Go.Proofs.Ytghfigeepnbjaaa
namespace Go.Proofs.Ytghfigeepnbjaaa
open Go.RowKit
abbrev actMLs : List LeafP := [intL .u8, intL .u8, intL .u8, intL .i64, intL .i64, intL .i64, intL .i64, intL .i64, intL .i64, intL .i64, intL .i64, intL .i64, strL, strL, intL .i64, intL .i64, strL, intL .i64, intL .i64, intL .i64, intL .i64, intL .i64, intL .i64, intL .i64, strL, strL, intL .i64, intL .i64, rowsL [intL .i64, intL .i64], intL .i64, intL .i64, intL .i64, intL .i64]
abbrev MasWalk (f : FuncId) : Prop := ∀ (w : World) (n0 : Int) (_ : (Lit.int .i64 n0).wf = true) (n1 : Int) (_ : (Lit.int .i64 n1).wf = true) (n2 : Int) (_ : (Lit.int .i64 n2).wf = true) (a : Option Addr) (n c : Nat) (hn : n ≤ c) (hc : c ≤ maxLen) (hr : RowsAt [intL .i64] w a n) (n4 : Int) (_ : (Lit.int .i64 n4).wf = true) (n5 : Int) (_ : (Lit.int .i64 n5).wf = true) (n6 : Int) (_ : (Lit.int .i64 n6).wf = true) (n7 : Int) (_ : (Lit.int .i64 n7).wf = true) (n8 : Int) (_ : (Lit.int .i64 n8).wf = true) (n9 : Int) (_ : (Lit.int .i64 n9).wf = true) (n10 : Int) (_ : (Lit.int .i64 n10).wf = true) (n11 : Int) (_ : (Lit.int .i64 n11).wf = true) (a1 : Option Addr) (m1 c1 : Nat) (h1 : m1 ≤ c1) (h2 : c1 ≤ maxLen) (h3 : RowsAt actMLs w a1 m1),
    Calls Try.prog f #[.agg #[.int .i64 n0, .int .i64 n1, .int .i64 n2, .slice a n c, .int .i64 n4, .int .i64 n5, .int .i64 n6, .int .i64 n7, .int .i64 n8, .int .i64 n9, .int .i64 n10, .int .i64 n11], .slice a1 m1 c1] w fun e w' => e = .returned (.bool true) ∧ Below w.heap.size w w'
/-- Bytes that come in. -/
def byteF (zs : List Int) : Nat → Nat → Value := fun r _ => .int .u8 (zs.getD r 0)
abbrev MasWalk3 (f : FuncId) : Prop := ∀ (w : World) (n0 : Int) (_ : (Lit.int .i64 n0).wf = true) (n1 : Int) (_ : (Lit.int .i64 n1).wf = true) (n2 : Int) (_ : (Lit.int .i64 n2).wf = true) (a : Option Addr) (n c : Nat) (hn : n ≤ c) (hc : c ≤ maxLen) (hr : RowsAt [intL .i64] w a n) (n4 : Int) (_ : (Lit.int .i64 n4).wf = true) (n5 : Int) (_ : (Lit.int .i64 n5).wf = true) (n6 : Int) (_ : (Lit.int .i64 n6).wf = true) (n7 : Int) (_ : (Lit.int .i64 n7).wf = true) (n8 : Int) (_ : (Lit.int .i64 n8).wf = true) (n9 : Int) (_ : (Lit.int .i64 n9).wf = true) (n10 : Int) (_ : (Lit.int .i64 n10).wf = true) (n11 : Int) (_ : (Lit.int .i64 n11).wf = true) (a1 : Option Addr) (m1 c1 : Nat) (h1 : m1 ≤ c1) (h2 : c1 ≤ maxLen) (h3 : RowsAt actMLs w a1 m1) (a2 : Option Addr) (m2 c2 : Nat) (h4 : m2 ≤ c2) (h5 : c2 ≤ maxLen) (h6 : RowsAt [intL .u8] w a2 m2),
    Calls Try.prog f #[.agg #[.int .i64 n0, .int .i64 n1, .int .i64 n2, .slice a n c, .int .i64 n4, .int .i64 n5, .int .i64 n6, .int .i64 n7, .int .i64 n8, .int .i64 n9, .int .i64 n10, .int .i64 n11], .slice a1 m1 c1, .slice a2 m2 c2] w fun e w' => e = .returned (.bool true) ∧ Below w.heap.size w w'
end Go.Proofs.Ytghfigeepnbjaaa
namespace Go.Proofs.Ytghfigeepnbjaaa
open Go.RowKit Go.ChangeShapes Go.WideShapes
section
variable {P : Program}
theorem array_all {H : Type} (enc : TypeId × Value → H) (w : World) (base : Nat) (spare : Nat → Bool) (held : Bool) (fuel : Nat) (cs : List Value) {e : TypeId} {ls : List LeafP} (he : Reads P e ls) {n : Nat} (hlen : cs.length = n * ls.length)
    (h : ∀ i : Nat, i < n → ∃ y, DataW.trod enc P w base spare held fuel e ((cs.drop (i * ls.length)).take ls.length) = some y) :
    ∀ k : Nat, k ≤ n → AllL w (List.replicate k ls).flatten (cs.drop ((n - k) * ls.length))
  | 0, _ => by
    rw [Nat.sub_zero, List.drop_of_length_le (by omega)]
    trivial
  | k + 1, hk => by
    have ih := array_all enc w base spare held fuel cs he hlen h k (by omega)
    obtain ⟨y, hy⟩ := h (n - (k + 1)) (by omega)
    have h1 := he.2 enc w base spare held fuel _ y hy
    have h3 := h1.append_ ih
    have e1 : (n - k) * ls.length = (n - (k + 1)) * ls.length + ls.length := by
      rw [show n - k = n - (k + 1) + 1 by omega, Nat.add_mul, Nat.one_mul]
    rw [e1, ← List.drop_drop, List.take_append_drop] at h3
    rw [List.replicate_succ, List.flatten_cons]
    exact h3
theorem reads_array {t e : TypeId} {n : Nat} {ls ls' : List LeafP} (ht : P.underlying t = some (.array n e)) (hc : P.cellsOf t = n * ls.length) (he : Reads P e ls) (hl : (List.replicate n ls).flatten = ls') : Reads P t ls' := by
  subst hl
  refine ⟨by simp [hc], fun enc w base spare held fuel cs x h => ?_⟩
  obtain ⟨xs, m, _, _, hlen, hxl, hg⟩ := DataW.trod_array ht h
  have := array_all enc w base spare held m cs he (n := n) (by rw [hlen, hc]) (fun i hi => by
    have h1 := hg i hi
    rw [he.1] at h1
    exact ⟨xs[i]'(by rw [hxl]; exact hi), h1.trans (List.getElem?_eq_getElem (by rw [hxl]; exact hi))⟩) n (Nat.le_refl _)
  rwa [Nat.sub_self, Nat.zero_mul, List.drop_zero] at this
/-- An array by value. -/
theorem reads_agg_array {t e : TypeId} {n : Nat} {ls : List LeafP} (ht : P.underlying t = some (.array n e)) (hr : Reads P t ls) {H : Type} {enc : TypeId × Value → H} {w : World} {base : Nat} {spare : Nat → Bool} {held : Bool} {r : Reach} {b0 : Nat} {v : Value} {d : DataW H} {p : List MemPlace}
    (hv : Value.okWide P w r b0 t v) (h : DataW.Trod enc P w base spare held t v d p) : ∃ cs : List Value, v = .agg cs.toArray ∧ AllL w ls cs := by
  simp only [Value.okWide, ht] at hv
  obtain ⟨cs, rfl, _⟩ := hv
  obtain ⟨fuel, hf⟩ := h
  exact ⟨cs.toList, by simp, hr.2 enc w base spare held fuel _ _ hf⟩
end
end Go.Proofs.Ytghfigeepnbjaaa
