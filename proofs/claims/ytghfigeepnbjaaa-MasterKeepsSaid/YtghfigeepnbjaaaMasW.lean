/-
  The laws of the master: their arguments, read. No condition.
-/
import Derived.Test.YtghfigeepnbjaaaActsM
import Derived.Test.YtghfigeepnbjaaaPD
namespace Go.Proofs.Ytghfigeepnbjaaa
open Go.RowKit
abbrev actMLs : List LeafP := [intL .u8, intL .u8, intL .u8, intL .i64, intL .i64, intL .i64, intL .i64, intL .i64, intL .i64, intL .i64, intL .i64, intL .i64, strL, strL, intL .i64, intL .i64, strL, intL .i64, intL .i64, intL .i64, intL .i64, intL .i64, intL .i64, intL .i64, strL, strL, intL .i64, intL .i64, rowsL [intL .i64, intL .i64], intL .i64, intL .i64, intL .i64, intL .i64]
abbrev MasWalk (f : FuncId) : Prop := ∀ (w : World) (n0 : Int) (_ : (Lit.int .i64 n0).wf = true) (n1 : Int) (_ : (Lit.int .i64 n1).wf = true) (n2 : Int) (_ : (Lit.int .i64 n2).wf = true) (a : Option Addr) (n c : Nat) (hn : n ≤ c) (hc : c ≤ maxLen) (hr : RowsAt [intL .i64] w a n) (n4 : Int) (_ : (Lit.int .i64 n4).wf = true) (n5 : Int) (_ : (Lit.int .i64 n5).wf = true) (n6 : Int) (_ : (Lit.int .i64 n6).wf = true) (n7 : Int) (_ : (Lit.int .i64 n7).wf = true) (n8 : Int) (_ : (Lit.int .i64 n8).wf = true) (n9 : Int) (_ : (Lit.int .i64 n9).wf = true) (n10 : Int) (_ : (Lit.int .i64 n10).wf = true) (n11 : Int) (_ : (Lit.int .i64 n11).wf = true) (a1 : Option Addr) (m1 c1 : Nat) (h1 : m1 ≤ c1) (h2 : c1 ≤ maxLen) (h3 : RowsAt actMLs w a1 m1),
    Calls Try.prog f #[.agg #[.int .i64 n0, .int .i64 n1, .int .i64 n2, .slice a n c, .int .i64 n4, .int .i64 n5, .int .i64 n6, .int .i64 n7, .int .i64 n8, .int .i64 n9, .int .i64 n10, .int .i64 n11], .slice a1 m1 c1] w fun e w' => e = .returned (.bool true) ∧ Below w.heap.size w w'
theorem mas_walk (f : FuncId) (core : ∀ (c : CfgM) (l : List ActMM) (p q : Value) (w : World), SliceV w p 1 c.quanta.length (intsF c.quanta) → SliceV w q 33 l.length (actMF l) → (∀ x ∈ l, x.wf w) → Calls Try.prog f #[cfgV c p, q] w fun e w' => e = .returned (.bool true) ∧ w.grownBy w' none) : MasWalk f := by
  intro w n0 _ n1 _ n2 _ a n c hn hc hr n4 _ n5 _ n6 _ n7 _ n8 _ n9 _ n10 _ n11 _ a1 m1 c1 h1 h2 h3
  obtain ⟨zs, rfl, hz⟩ := rows_ints hr
  obtain ⟨l, rfl, hl, hw⟩ := rows_actsM h3
  exact (core ⟨n0, n1, n2, zs, n4, n5, n6, n7, n8, n9, n10, n11⟩ l _ _ w ⟨a, c, rfl, hn, hc, hz⟩ ⟨a1, c1, rfl, h1, h2, hl⟩ hw).mono fun _ _ ⟨h, k⟩ => ⟨h, below_of_only k⟩
/-- Bytes that come in. -/
def byteF (zs : List Int) : Nat → Nat → Value := fun r _ => .int .u8 (zs.getD r 0)
theorem rows_bytes {w : World} {a : Option Addr} {n : Nat} (h : RowsAt [intL .u8] w a n) : ∃ zs : List Int, zs.length = n ∧ RowOk w a 1 n (byteF zs) ∧ ∀ x ∈ zs, 0 ≤ x ∧ x ≤ 255 := by
  obtain ⟨zs, h1, h2, h3⟩ := rows_listP h (0 : Int) (fun n _ => .int .u8 n) (fun x => 0 ≤ x ∧ x ≤ 255) (fun cs hall => by
    obtain ⟨_, _, rfl, ⟨n0, rfl, w0⟩, m1⟩ := hall.cons_
    obtain rfl := m1.nil_
    exact ⟨n0, (by have := w0; simp [Lit.wf] at this; exact this), fun j hj => by simp at hj; subst hj; rfl⟩)
  exact ⟨zs, h1, h2, h3⟩
abbrev MasWalk3 (f : FuncId) : Prop := ∀ (w : World) (n0 : Int) (_ : (Lit.int .i64 n0).wf = true) (n1 : Int) (_ : (Lit.int .i64 n1).wf = true) (n2 : Int) (_ : (Lit.int .i64 n2).wf = true) (a : Option Addr) (n c : Nat) (hn : n ≤ c) (hc : c ≤ maxLen) (hr : RowsAt [intL .i64] w a n) (n4 : Int) (_ : (Lit.int .i64 n4).wf = true) (n5 : Int) (_ : (Lit.int .i64 n5).wf = true) (n6 : Int) (_ : (Lit.int .i64 n6).wf = true) (n7 : Int) (_ : (Lit.int .i64 n7).wf = true) (n8 : Int) (_ : (Lit.int .i64 n8).wf = true) (n9 : Int) (_ : (Lit.int .i64 n9).wf = true) (n10 : Int) (_ : (Lit.int .i64 n10).wf = true) (n11 : Int) (_ : (Lit.int .i64 n11).wf = true) (a1 : Option Addr) (m1 c1 : Nat) (h1 : m1 ≤ c1) (h2 : c1 ≤ maxLen) (h3 : RowsAt actMLs w a1 m1) (a2 : Option Addr) (m2 c2 : Nat) (h4 : m2 ≤ c2) (h5 : c2 ≤ maxLen) (h6 : RowsAt [intL .u8] w a2 m2),
    Calls Try.prog f #[.agg #[.int .i64 n0, .int .i64 n1, .int .i64 n2, .slice a n c, .int .i64 n4, .int .i64 n5, .int .i64 n6, .int .i64 n7, .int .i64 n8, .int .i64 n9, .int .i64 n10, .int .i64 n11], .slice a1 m1 c1, .slice a2 m2 c2] w fun e w' => e = .returned (.bool true) ∧ Below w.heap.size w w'
theorem mas_walk3 (f : FuncId) (core : ∀ (c : CfgM) (l : List ActMM) (ts : List Int) (p q r : Value) (w : World), SliceV w p 1 c.quanta.length (intsF c.quanta) → SliceV w q 33 l.length (actMF l) → SliceV w r 1 ts.length (byteF ts) → (∀ x ∈ l, x.wf w) → (∀ x ∈ ts, 0 ≤ x ∧ x ≤ 255) → Calls Try.prog f #[cfgV c p, q, r] w fun e w' => e = .returned (.bool true) ∧ w.grownBy w' none) : MasWalk3 f := by
  intro w n0 _ n1 _ n2 _ a n c hn hc hr n4 _ n5 _ n6 _ n7 _ n8 _ n9 _ n10 _ n11 _ a1 m1 c1 h1 h2 h3 a2 m2 c2 h4 h5 h6
  obtain ⟨zs, rfl, hz⟩ := rows_ints hr
  obtain ⟨l, rfl, hl, hw⟩ := rows_actsM h3
  obtain ⟨ts, rfl, ht, hb⟩ := rows_bytes h6
  exact (core ⟨n0, n1, n2, zs, n4, n5, n6, n7, n8, n9, n10, n11⟩ l ts _ _ _ w ⟨a, c, rfl, hn, hc, hz⟩ ⟨a1, c1, rfl, h1, h2, hl⟩ ⟨a2, c2, rfl, h4, h5, ht⟩ hw hb).mono fun _ _ ⟨h, k⟩ => ⟨h, below_of_only k⟩
end Go.Proofs.Ytghfigeepnbjaaa
