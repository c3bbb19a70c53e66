/-
  The acts of a master, as they come in; a list's rows with what is known of each. The laws of the master: their arguments, read. How an argument reads, cell by cell: arrays. No condition.
-/
import Derived.Test.YtghfigeepnbjaaaP7
import Derived.Test.YtghfigeepnbjaaaP5
import Derived.Test.YtghfigeepnbjaaaPD
namespace Go.Proofs.Ytghfigeepnbjaaa
/-- Rows as a list, with what is known of each. -/
theorem rows_listP {α : Type} {ls : List LeafP} {w : World} {a : Option Addr} {n : Nat} (h : RowsAt ls w a n) (d : α) (cell : α → Nat → Value) (p : α → Prop) (hd : ∀ cs : List Value, AllL w ls cs → ∃ x : α, p x ∧ ∀ j, j < ls.length → cs[j]? = some (cell x j)) :
    ∃ zs : List α, zs.length = n ∧ RowOk w a ls.length n (fun r c => cell (zs.getD r d) c) ∧ ∀ x ∈ zs, p x := by
  obtain ⟨f, hf⟩ := rows_fn h
  have key : ∀ i, ∃ x : α, i < n → p x ∧ ∀ j, j < ls.length → (f i)[j]? = some (cell x j) := fun i => by
    by_cases hi : i < n
    · obtain ⟨b, off, h0, hb, hall, hat⟩ := hf i hi
      obtain ⟨x, hx⟩ := hd _ hall
      exact ⟨x, fun _ => hx⟩
    · exact ⟨d, fun h => absurd h hi⟩
  refine ⟨(List.range n).map fun i => (key i).choose, by simp, fun hn => ?_, fun x hx => ?_⟩
  · obtain ⟨b, off, h0, hb, _, _⟩ := hf 0 hn
    refine ⟨b, off, h0, hb, fun r c hr hc => ?_⟩
    obtain ⟨b', off', h0', _, hall, hat⟩ := hf r hr
    rw [h0] at h0'
    cases h0'
    have := ((key r).choose_spec hr).2 c hc
    rw [hat c _ this]
    simp [List.getD, hr]
  · obtain ⟨i, hi, rfl⟩ := List.mem_map.1 hx
    exact ((key i).choose_spec (List.mem_range.1 hi)).1
structure ActMM where
  kind : Int
  a : Int
  b : Int
  frm : Int
  f : FrM
  fa : Option Addr
  fc : Nat
abbrev ActMM.q (x : ActMM) : Value := .slice x.fa x.f.ch.mem.length x.fc
def actMC (x : ActMM) : List Value := .int .u8 x.kind :: .int .u8 x.a :: .int .u8 x.b :: .int .i64 x.frm :: frC x.f x.q
def actMZ : ActMM := ⟨0, 0, 0, 0, frZ, none, 0⟩
abbrev actMF (l : List ActMM) : Nat → Nat → Value := rowsF actMC actMZ l
structure ActMM.wf (w : World) (x : ActMM) : Prop where
  kind : 0 ≤ x.kind ∧ x.kind ≤ 255
  a : 0 ≤ x.a ∧ x.a ≤ 255
  b : 0 ≤ x.b ∧ x.b ≤ 255
  ch : ChSl w x.q x.f.ch
set_option maxRecDepth 100000 in
theorem rows_actsM {w : World} {a : Option Addr} {n : Nat} (h : RowsAt [intL .u8, intL .u8, intL .u8, intL .i64, intL .i64, intL .i64, intL .i64, intL .i64, intL .i64, intL .i64, intL .i64, intL .i64, strL, strL, intL .i64, intL .i64, strL, intL .i64, intL .i64, intL .i64, intL .i64, intL .i64, intL .i64, intL .i64, strL, strL, intL .i64, intL .i64, rowsL [intL .i64, intL .i64], intL .i64, intL .i64, intL .i64, intL .i64] w a n) : ∃ l : List ActMM, l.length = n ∧ RowOk w a 33 n (actMF l) ∧ ∀ x ∈ l, x.wf w := by
  obtain ⟨zs, h1, h2, h3⟩ := rows_listP h actMZ (fun x c => (actMC x).getD c undef) (fun x => x.wf w) (fun cs hall => by
    obtain ⟨_, _, rfl, ⟨n0, rfl, w0⟩, m1⟩ := hall.cons_
    obtain ⟨_, _, rfl, ⟨n1, rfl, w1⟩, m2⟩ := m1.cons_
    obtain ⟨_, _, rfl, ⟨n2, rfl, w2⟩, m3⟩ := m2.cons_
    obtain ⟨_, _, rfl, ⟨n3, rfl, w3⟩, m4⟩ := m3.cons_
    obtain ⟨_, _, rfl, ⟨n4, rfl, w4⟩, m5⟩ := m4.cons_
    obtain ⟨_, _, rfl, ⟨n5, rfl, w5⟩, m6⟩ := m5.cons_
    obtain ⟨_, _, rfl, ⟨n6, rfl, w6⟩, m7⟩ := m6.cons_
    obtain ⟨_, _, rfl, ⟨n7, rfl, w7⟩, m8⟩ := m7.cons_
    obtain ⟨_, _, rfl, ⟨n8, rfl, w8⟩, m9⟩ := m8.cons_
    obtain ⟨_, _, rfl, ⟨n9, rfl, w9⟩, m10⟩ := m9.cons_
    obtain ⟨_, _, rfl, ⟨n10, rfl, w10⟩, m11⟩ := m10.cons_
    obtain ⟨_, _, rfl, ⟨n11, rfl, w11⟩, m12⟩ := m11.cons_
    obtain ⟨_, _, rfl, ⟨s12, rfl, w12⟩, m13⟩ := m12.cons_
    obtain ⟨_, _, rfl, ⟨s13, rfl, w13⟩, m14⟩ := m13.cons_
    obtain ⟨_, _, rfl, ⟨n14, rfl, w14⟩, m15⟩ := m14.cons_
    obtain ⟨_, _, rfl, ⟨n15, rfl, w15⟩, m16⟩ := m15.cons_
    obtain ⟨_, _, rfl, ⟨s16, rfl, w16⟩, m17⟩ := m16.cons_
    obtain ⟨_, _, rfl, ⟨n17, rfl, w17⟩, m18⟩ := m17.cons_
    obtain ⟨_, _, rfl, ⟨n18, rfl, w18⟩, m19⟩ := m18.cons_
    obtain ⟨_, _, rfl, ⟨n19, rfl, w19⟩, m20⟩ := m19.cons_
    obtain ⟨_, _, rfl, ⟨n20, rfl, w20⟩, m21⟩ := m20.cons_
    obtain ⟨_, _, rfl, ⟨n21, rfl, w21⟩, m22⟩ := m21.cons_
    obtain ⟨_, _, rfl, ⟨n22, rfl, w22⟩, m23⟩ := m22.cons_
    obtain ⟨_, _, rfl, ⟨n23, rfl, w23⟩, m24⟩ := m23.cons_
    obtain ⟨_, _, rfl, ⟨s24, rfl, w24⟩, m25⟩ := m24.cons_
    obtain ⟨_, _, rfl, ⟨s25, rfl, w25⟩, m26⟩ := m25.cons_
    obtain ⟨_, _, rfl, ⟨n26, rfl, w26⟩, m27⟩ := m26.cons_
    obtain ⟨_, _, rfl, ⟨n27, rfl, w27⟩, m28⟩ := m27.cons_
    obtain ⟨_, _, rfl, ⟨qa, qn, qc, rfl, hq1, hq2, hq3⟩, m29⟩ := m28.cons_
    obtain ⟨_, _, rfl, ⟨n29, rfl, w29⟩, m30⟩ := m29.cons_
    obtain ⟨_, _, rfl, ⟨n30, rfl, w30⟩, m31⟩ := m30.cons_
    obtain ⟨_, _, rfl, ⟨n31, rfl, w31⟩, m32⟩ := m31.cons_
    obtain ⟨_, _, rfl, ⟨n32, rfl, w32⟩, m33⟩ := m32.cons_
    obtain rfl := m33.nil_
    obtain ⟨t12, rfl, _⟩ := toS s12
    obtain ⟨t13, rfl, _⟩ := toS s13
    obtain ⟨t16, rfl, _⟩ := toS s16
    obtain ⟨t24, rfl, _⟩ := toS s24
    obtain ⟨t25, rfl, _⟩ := toS s25
    obtain ⟨ms, rfl, hms⟩ := rows_mems hq3
    refine ⟨⟨n0, n1, n2, n3, ⟨n4, n5, n6, n7, n8, n9, n10, ⟨n11, t12, t13, n14⟩, ⟨n15, t16, n17, n18⟩, n19, ⟨n20, n21, n22, ⟨n23, t24, t25, n26⟩⟩, ⟨n27, ms, n29⟩, n30, n31, n32⟩, qa, qc⟩, ⟨?_, ?_, ?_, ⟨qa, qc, rfl, hq1, hq2, hms⟩⟩, fun j hj => ?_⟩
    · have := w0; simp [Lit.wf] at this; exact this
    · have := w1; simp [Lit.wf] at this; exact this
    · have := w2; simp [Lit.wf] at this; exact this
    rcases j with _ | _ | _ | _ | _ | _ | _ | _ | _ | _ | _ | _ | _ | _ | _ | _ | _ | _ | _ | _ | _ | _ | _ | _ | _ | _ | _ | _ | _ | _ | _ | _ | _ | j <;> first | rfl | exact absurd hj (by simp))
  exact ⟨zs, h1, h2, h3⟩
theorem ActMM.wf_at {w : World} {l : List ActMM} (h : ∀ x ∈ l, x.wf w) {k : Nat} (hk : k < l.length) : (l.getD k actMZ).wf w := by
  rw [List.getD, List.getElem?_eq_getElem hk]
  exact h _ (List.getElem_mem hk)
end Go.Proofs.Ytghfigeepnbjaaa
namespace Go.Proofs.Ytghfigeepnbjaaa
open Go.RowKit
abbrev actMLs : List LeafP := [intL .u8, intL .u8, intL .u8, intL .i64, intL .i64, intL .i64, intL .i64, intL .i64, intL .i64, intL .i64, intL .i64, intL .i64, strL, strL, intL .i64, intL .i64, strL, intL .i64, intL .i64, intL .i64, intL .i64, intL .i64, intL .i64, intL .i64, strL, strL, intL .i64, intL .i64, rowsL [intL .i64, intL .i64], intL .i64, intL .i64, intL .i64, intL .i64]
abbrev MasWalk (f : FuncId) : Prop := ∀ (w : World) (n0 : Int) (_ : (Lit.int .i64 n0).wf = true) (n1 : Int) (_ : (Lit.int .i64 n1).wf = true) (n2 : Int) (_ : (Lit.int .i64 n2).wf = true) (a : Option Addr) (n c : Nat) (hn : n ≤ c) (hc : c ≤ maxLen) (hr : RowsAt [intL .i64] w a n) (n4 : Int) (_ : (Lit.int .i64 n4).wf = true) (n5 : Int) (_ : (Lit.int .i64 n5).wf = true) (n6 : Int) (_ : (Lit.int .i64 n6).wf = true) (n7 : Int) (_ : (Lit.int .i64 n7).wf = true) (n8 : Int) (_ : (Lit.int .i64 n8).wf = true) (n9 : Int) (_ : (Lit.int .i64 n9).wf = true) (n10 : Int) (_ : (Lit.int .i64 n10).wf = true) (n11 : Int) (_ : (Lit.int .i64 n11).wf = true) (a1 : Option Addr) (m1 c1 : Nat) (h1 : m1 ≤ c1) (h2 : c1 ≤ maxLen) (h3 : RowsAt actMLs w a1 m1),
    Calls Try.prog f #[.agg #[.int .i64 n0, .int .i64 n1, .int .i64 n2, .slice a n c, .int .i64 n4, .int .i64 n5, .int .i64 n6, .int .i64 n7, .int .i64 n8, .int .i64 n9, .int .i64 n10, .int .i64 n11], .slice a1 m1 c1] w fun e w' => e = .returned (.bool true) ∧ Below w.heap.size w w'
/-- Bytes that come in. -/
def byteF (zs : List Int) : Nat → Nat → Value := fun r _ => .int .u8 (zs.getD r 0)
theorem rows_bytes {w : World} {a : Option Addr} {n : Nat} (h : RowsAt [intL .u8] w a n) : ∃ zs : List Int, zs.length = n ∧ RowOk w a 1 n (byteF zs) ∧ ∀ x ∈ zs, 0 ≤ x ∧ x ≤ 255 := by
  obtain ⟨zs, h1, h2, h3⟩ := rows_listP h (0 : Int) (fun n _ => .int .u8 n) (fun x => 0 ≤ x ∧ x ≤ 255) (fun cs hall => by
    obtain ⟨_, _, rfl, ⟨n0, rfl, w0⟩, m1⟩ := hall.cons_
    obtain rfl := m1.nil_
    exact ⟨n0, (by have := w0; simp [Lit.wf] at this; exact this), fun j hj => by simp at hj; subst hj; rfl⟩)
  exact ⟨zs, h1, h2, h3⟩
abbrev MasWalk3 (f : FuncId) : Prop := ∀ (w : World) (n0 : Int) (_ : (Lit.int .i64 n0).wf = true) (n1 : Int) (_ : (Lit.int .i64 n1).wf = true) (n2 : Int) (_ : (Lit.int .i64 n2).wf = true) (a : Option Addr) (n c : Nat) (hn : n ≤ c) (hc : c ≤ maxLen) (hr : RowsAt [intL .i64] w a n) (n4 : Int) (_ : (Lit.int .i64 n4).wf = true) (n5 : Int) (_ : (Lit.int .i64 n5).wf = true) (n6 : Int) (_ : (Lit.int .i64 n6).wf = true) (n7 : Int) (_ : (Lit.int .i64 n7).wf = true) (n8 : Int) (_ : (Lit.int .i64 n8).wf = true) (n9 : Int) (_ : (Lit.int .i64 n9).wf = true) (n10 : Int) (_ : (Lit.int .i64 n10).wf = true) (n11 : Int) (_ : (Lit.int .i64 n11).wf = true) (a1 : Option Addr) (m1 c1 : Nat) (h1 : m1 ≤ c1) (h2 : c1 ≤ maxLen) (h3 : RowsAt actMLs w a1 m1) (a2 : Option Addr) (m2 c2 : Nat) (h4 : m2 ≤ c2) (h5 : c2 ≤ maxLen) (h6 : RowsAt [intL .u8] w a2 m2),
    Calls Try.prog f #[.agg #[.int .i64 n0, .int .i64 n1, .int .i64 n2, .slice a n c, .int .i64 n4, .int .i64 n5, .int .i64 n6, .int .i64 n7, .int .i64 n8, .int .i64 n9, .int .i64 n10, .int .i64 n11], .slice a1 m1 c1, .slice a2 m2 c2] w fun e w' => e = .returned (.bool true) ∧ Below w.heap.size w w'
end Go.Proofs.Ytghfigeepnbjaaa
namespace Go.Proofs.Ytghfigeepnbjaaa
open Go.RowKit Go.ChangeShapes Go.WideShapes
section
variable {P : Program}
end
end Go.Proofs.Ytghfigeepnbjaaa
