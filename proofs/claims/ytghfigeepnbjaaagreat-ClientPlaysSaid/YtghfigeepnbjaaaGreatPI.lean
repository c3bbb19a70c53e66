/-
  The acts of a master, as they come in; a list's rows with what is known of each. The acts of a client, as they come in. The laws of the master: their arguments, read. How an argument reads, cell by cell: arrays. No condition.
-/
import Derived.Test.YtghfigeepnbjaaaGreatP7
import Derived.Test.YtghfigeepnbjaaaGreatP5
import Derived.Test.YtghfigeepnbjaaaGreatPD
namespace Go.Proofs.YtghfigeepnbjaaaGreat
/-- Rows as a list, with what is known of each. -/
theorem rows_listP {α : Type} {ls : List LeafP} {w : World} {a : Option Addr} {n : Nat} (h : RowsAt ls w a n) (d : α) (cell : α → Nat → Value) (p : α → Prop) (hd : ∀ cs : List Value, AllL w ls cs → ∃ x : α, p x ∧ ∀ j, j < ls.length → cs[j]? = some (cell x j)) :
    ∃ zs : List α, zs.length = n ∧ RowOk w a ls.length n (fun r c => cell (zs.getD r d) c) ∧ ∀ x ∈ zs, p x := by
  obtain ⟨f, hf⟩ := rows_fn h
  have key : ∀ i, ∃ x : α, i < n → p x ∧ ∀ j, j < ls.length → (f i)[j]? = some (cell x j) := fun i => by
    by_cases hi : i < n
    · obtain ⟨b, off, h0, hb, hall, hat⟩ := hf i hi
      obtain ⟨x, hx⟩ := hd _ hall
      exact ⟨x, fun _ => hx⟩
    · exact ⟨d, fun h => absurd h hi⟩
  refine ⟨(List.range n).map fun i => (key i).choose, by simp, fun hn => ?_, fun x hx => ?_⟩
  · obtain ⟨b, off, h0, hb, _, _⟩ := hf 0 hn
    refine ⟨b, off, h0, hb, fun r c hr hc => ?_⟩
    obtain ⟨b', off', h0', _, hall, hat⟩ := hf r hr
    rw [h0] at h0'
    cases h0'
    have := ((key r).choose_spec hr).2 c hc
    rw [hat c _ this]
    simp [List.getD, hr]
  · obtain ⟨i, hi, rfl⟩ := List.mem_map.1 hx
    exact ((key i).choose_spec (List.mem_range.1 hi)).1
structure ActMM where
  kind : Int
  a : Int
  b : Int
  frm : Int
  f : FrM
  fa : Option Addr
  fc : Nat
abbrev ActMM.q (x : ActMM) : Value := .slice x.fa x.f.ch.mem.length x.fc
def actMC (x : ActMM) : List Value := .int .u8 x.kind :: .int .u8 x.a :: .int .u8 x.b :: .int .i64 x.frm :: frC x.f x.q
def actMZ : ActMM := ⟨0, 0, 0, 0, frZ, none, 0⟩
abbrev actMF (l : List ActMM) : Nat → Nat → Value := rowsF actMC actMZ l
structure ActMM.wf (w : World) (x : ActMM) : Prop where
  kind : 0 ≤ x.kind ∧ x.kind ≤ 255
  a : 0 ≤ x.a ∧ x.a ≤ 255
  b : 0 ≤ x.b ∧ x.b ≤ 255
  ch : ChSl w x.q x.f.ch
theorem ActMM.wf_at {w : World} {l : List ActMM} (h : ∀ x ∈ l, x.wf w) {k : Nat} (hk : k < l.length) : (l.getD k actMZ).wf w := by
  rw [List.getD, List.getElem?_eq_getElem hk]
  exact h _ (List.getElem_mem hk)
end Go.Proofs.YtghfigeepnbjaaaGreat
namespace Go.Proofs.YtghfigeepnbjaaaGreat
structure ActC where
  kind : Int
  a : Int
  b : Int
  op : OpM
  f : FrM
  fa : Option Addr
  fc : Nat
  n0 : Int
  n1 : Int
  n2 : Int
abbrev ActC.q (x : ActC) : Value := .slice x.fa x.f.ch.mem.length x.fc
def actCC (x : ActC) : List Value := .int .u8 x.kind :: .int .u8 x.a :: .int .u8 x.b :: .int .i64 x.op.kind :: S x.op.key :: S x.op.value :: .int .i64 x.op.version :: (frC x.f x.q ++ [.int .i64 x.n0, .int .i64 x.n1, .int .i64 x.n2])
def actCZ : ActC := ⟨0, 0, 0, opZ, frZ, none, 0, 0, 0, 0⟩
abbrev actCF (l : List ActC) : Nat → Nat → Value := rowsF actCC actCZ l
structure ActC.wf (w : World) (x : ActC) : Prop where
  kind : 0 ≤ x.kind ∧ x.kind ≤ 255
  a : 0 ≤ x.a ∧ x.a ≤ 255
  b : 0 ≤ x.b ∧ x.b ≤ 255
  ch : ChSl w x.q x.f.ch
abbrev actCLs : List LeafP := [intL .u8, intL .u8, intL .u8, intL .i64, strL, strL, intL .i64, intL .i64, intL .i64, intL .i64, intL .i64, intL .i64, intL .i64, intL .i64, intL .i64, strL, strL, intL .i64, intL .i64, strL, intL .i64, intL .i64, intL .i64, intL .i64, intL .i64, intL .i64, intL .i64, strL, strL, intL .i64, intL .i64, rowsL [intL .i64, intL .i64], intL .i64, intL .i64, intL .i64, intL .i64, intL .i64, intL .i64, intL .i64]
set_option maxRecDepth 100000 in
theorem rows_actsC {w : World} {a : Option Addr} {n : Nat} (h : RowsAt actCLs w a n) : ∃ l : List ActC, l.length = n ∧ RowOk w a 39 n (actCF l) ∧ ∀ x ∈ l, x.wf w := by
  obtain ⟨zs, h1, h2, h3⟩ := rows_listP h actCZ (fun x c => (actCC x).getD c undef) (fun x => x.wf w) (fun cs hall => by
    obtain ⟨_, _, rfl, ⟨n0, rfl, w0⟩, m1⟩ := hall.cons_
    obtain ⟨_, _, rfl, ⟨n1, rfl, w1⟩, m2⟩ := m1.cons_
    obtain ⟨_, _, rfl, ⟨n2, rfl, w2⟩, m3⟩ := m2.cons_
    obtain ⟨_, _, rfl, ⟨n3, rfl, w3⟩, m4⟩ := m3.cons_
    obtain ⟨_, _, rfl, ⟨s4, rfl, w4⟩, m5⟩ := m4.cons_
    obtain ⟨_, _, rfl, ⟨s5, rfl, w5⟩, m6⟩ := m5.cons_
    obtain ⟨_, _, rfl, ⟨n6, rfl, w6⟩, m7⟩ := m6.cons_
    obtain ⟨_, _, rfl, ⟨n7, rfl, w7⟩, m8⟩ := m7.cons_
    obtain ⟨_, _, rfl, ⟨n8, rfl, w8⟩, m9⟩ := m8.cons_
    obtain ⟨_, _, rfl, ⟨n9, rfl, w9⟩, m10⟩ := m9.cons_
    obtain ⟨_, _, rfl, ⟨n10, rfl, w10⟩, m11⟩ := m10.cons_
    obtain ⟨_, _, rfl, ⟨n11, rfl, w11⟩, m12⟩ := m11.cons_
    obtain ⟨_, _, rfl, ⟨n12, rfl, w12⟩, m13⟩ := m12.cons_
    obtain ⟨_, _, rfl, ⟨n13, rfl, w13⟩, m14⟩ := m13.cons_
    obtain ⟨_, _, rfl, ⟨n14, rfl, w14⟩, m15⟩ := m14.cons_
    obtain ⟨_, _, rfl, ⟨s15, rfl, w15⟩, m16⟩ := m15.cons_
    obtain ⟨_, _, rfl, ⟨s16, rfl, w16⟩, m17⟩ := m16.cons_
    obtain ⟨_, _, rfl, ⟨n17, rfl, w17⟩, m18⟩ := m17.cons_
    obtain ⟨_, _, rfl, ⟨n18, rfl, w18⟩, m19⟩ := m18.cons_
    obtain ⟨_, _, rfl, ⟨s19, rfl, w19⟩, m20⟩ := m19.cons_
    obtain ⟨_, _, rfl, ⟨n20, rfl, w20⟩, m21⟩ := m20.cons_
    obtain ⟨_, _, rfl, ⟨n21, rfl, w21⟩, m22⟩ := m21.cons_
    obtain ⟨_, _, rfl, ⟨n22, rfl, w22⟩, m23⟩ := m22.cons_
    obtain ⟨_, _, rfl, ⟨n23, rfl, w23⟩, m24⟩ := m23.cons_
    obtain ⟨_, _, rfl, ⟨n24, rfl, w24⟩, m25⟩ := m24.cons_
    obtain ⟨_, _, rfl, ⟨n25, rfl, w25⟩, m26⟩ := m25.cons_
    obtain ⟨_, _, rfl, ⟨n26, rfl, w26⟩, m27⟩ := m26.cons_
    obtain ⟨_, _, rfl, ⟨s27, rfl, w27⟩, m28⟩ := m27.cons_
    obtain ⟨_, _, rfl, ⟨s28, rfl, w28⟩, m29⟩ := m28.cons_
    obtain ⟨_, _, rfl, ⟨n29, rfl, w29⟩, m30⟩ := m29.cons_
    obtain ⟨_, _, rfl, ⟨n30, rfl, w30⟩, m31⟩ := m30.cons_
    obtain ⟨_, _, rfl, ⟨qa, qn, qc, rfl, hq1, hq2, hq3⟩, m32⟩ := m31.cons_
    obtain ⟨_, _, rfl, ⟨n32, rfl, w32⟩, m33⟩ := m32.cons_
    obtain ⟨_, _, rfl, ⟨n33, rfl, w33⟩, m34⟩ := m33.cons_
    obtain ⟨_, _, rfl, ⟨n34, rfl, w34⟩, m35⟩ := m34.cons_
    obtain ⟨_, _, rfl, ⟨n35, rfl, w35⟩, m36⟩ := m35.cons_
    obtain ⟨_, _, rfl, ⟨n36, rfl, w36⟩, m37⟩ := m36.cons_
    obtain ⟨_, _, rfl, ⟨n37, rfl, w37⟩, m38⟩ := m37.cons_
    obtain ⟨_, _, rfl, ⟨n38, rfl, w38⟩, m39⟩ := m38.cons_
    obtain rfl := m39.nil_
    obtain ⟨t4, rfl, _⟩ := toS s4
    obtain ⟨t5, rfl, _⟩ := toS s5
    obtain ⟨t15, rfl, _⟩ := toS s15
    obtain ⟨t16, rfl, _⟩ := toS s16
    obtain ⟨t19, rfl, _⟩ := toS s19
    obtain ⟨t27, rfl, _⟩ := toS s27
    obtain ⟨t28, rfl, _⟩ := toS s28
    obtain ⟨ms, rfl, hms⟩ := rows_mems hq3
    refine ⟨⟨n0, n1, n2, ⟨n3, t4, t5, n6⟩, ⟨n7, n8, n9, n10, n11, n12, n13, ⟨n14, t15, t16, n17⟩, ⟨n18, t19, n20, n21⟩, n22, ⟨n23, n24, n25, ⟨n26, t27, t28, n29⟩⟩, ⟨n30, ms, n32⟩, n33, n34, n35⟩, qa, qc, n36, n37, n38⟩, ⟨?_, ?_, ?_, ⟨qa, qc, rfl, hq1, hq2, hms⟩⟩, fun j hj => ?_⟩
    · simpa [Lit.wf, IntKind.min, IntKind.max, IntKind.signed, IntKind.bits] using w0
    · simpa [Lit.wf, IntKind.min, IntKind.max, IntKind.signed, IntKind.bits] using w1
    · simpa [Lit.wf, IntKind.min, IntKind.max, IntKind.signed, IntKind.bits] using w2
    rcases j with _ | _ | _ | _ | _ | _ | _ | _ | _ | _ | _ | _ | _ | _ | _ | _ | _ | _ | _ | _ | _ | _ | _ | _ | _ | _ | _ | _ | _ | _ | _ | _ | _ | _ | _ | _ | _ | _ | _ | j <;> first | rfl | exact absurd hj (by simp))
  exact ⟨zs, h1, h2, h3⟩
theorem ActC.wf_at {w : World} {l : List ActC} (h : ∀ x ∈ l, x.wf w) {k : Nat} (hk : k < l.length) : (l.getD k actCZ).wf w := by
  rw [List.getD, List.getElem?_eq_getElem hk]
  exact h _ (List.getElem_mem hk)
end Go.Proofs.YtghfigeepnbjaaaGreat
namespace Go.Proofs.YtghfigeepnbjaaaGreat
open Go.RowKit
abbrev actMLs : List LeafP := [intL .u8, intL .u8, intL .u8, intL .i64, intL .i64, intL .i64, intL .i64, intL .i64, intL .i64, intL .i64, intL .i64, intL .i64, strL, strL, intL .i64, intL .i64, strL, intL .i64, intL .i64, intL .i64, intL .i64, intL .i64, intL .i64, intL .i64, strL, strL, intL .i64, intL .i64, rowsL [intL .i64, intL .i64], intL .i64, intL .i64, intL .i64, intL .i64]
abbrev MasWalk (f : FuncId) : Prop := ∀ (w : World) (n0 : Int) (_ : (Lit.int .i64 n0).wf = true) (n1 : Int) (_ : (Lit.int .i64 n1).wf = true) (n2 : Int) (_ : (Lit.int .i64 n2).wf = true) (a : Option Addr) (n c : Nat) (hn : n ≤ c) (hc : c ≤ maxLen) (hr : RowsAt [intL .i64] w a n) (n4 : Int) (_ : (Lit.int .i64 n4).wf = true) (n5 : Int) (_ : (Lit.int .i64 n5).wf = true) (n6 : Int) (_ : (Lit.int .i64 n6).wf = true) (n7 : Int) (_ : (Lit.int .i64 n7).wf = true) (n8 : Int) (_ : (Lit.int .i64 n8).wf = true) (n9 : Int) (_ : (Lit.int .i64 n9).wf = true) (n10 : Int) (_ : (Lit.int .i64 n10).wf = true) (n11 : Int) (_ : (Lit.int .i64 n11).wf = true) (a1 : Option Addr) (m1 c1 : Nat) (h1 : m1 ≤ c1) (h2 : c1 ≤ maxLen) (h3 : RowsAt actMLs w a1 m1),
    Calls Tryz.prog f #[.agg #[.int .i64 n0, .int .i64 n1, .int .i64 n2, .slice a n c, .int .i64 n4, .int .i64 n5, .int .i64 n6, .int .i64 n7, .int .i64 n8, .int .i64 n9, .int .i64 n10, .int .i64 n11], .slice a1 m1 c1] w fun e w' => e = .returned (.bool true) ∧ Below w.heap.size w w'
/-- Bytes that come in. -/
def byteF (zs : List Int) : Nat → Nat → Value := fun r _ => .int .u8 (zs.getD r 0)
abbrev MasWalk3 (f : FuncId) : Prop := ∀ (w : World) (n0 : Int) (_ : (Lit.int .i64 n0).wf = true) (n1 : Int) (_ : (Lit.int .i64 n1).wf = true) (n2 : Int) (_ : (Lit.int .i64 n2).wf = true) (a : Option Addr) (n c : Nat) (hn : n ≤ c) (hc : c ≤ maxLen) (hr : RowsAt [intL .i64] w a n) (n4 : Int) (_ : (Lit.int .i64 n4).wf = true) (n5 : Int) (_ : (Lit.int .i64 n5).wf = true) (n6 : Int) (_ : (Lit.int .i64 n6).wf = true) (n7 : Int) (_ : (Lit.int .i64 n7).wf = true) (n8 : Int) (_ : (Lit.int .i64 n8).wf = true) (n9 : Int) (_ : (Lit.int .i64 n9).wf = true) (n10 : Int) (_ : (Lit.int .i64 n10).wf = true) (n11 : Int) (_ : (Lit.int .i64 n11).wf = true) (a1 : Option Addr) (m1 c1 : Nat) (h1 : m1 ≤ c1) (h2 : c1 ≤ maxLen) (h3 : RowsAt actMLs w a1 m1) (a2 : Option Addr) (m2 c2 : Nat) (h4 : m2 ≤ c2) (h5 : c2 ≤ maxLen) (h6 : RowsAt [intL .u8] w a2 m2),
    Calls Tryz.prog f #[.agg #[.int .i64 n0, .int .i64 n1, .int .i64 n2, .slice a n c, .int .i64 n4, .int .i64 n5, .int .i64 n6, .int .i64 n7, .int .i64 n8, .int .i64 n9, .int .i64 n10, .int .i64 n11], .slice a1 m1 c1, .slice a2 m2 c2] w fun e w' => e = .returned (.bool true) ∧ Below w.heap.size w w'
end Go.Proofs.YtghfigeepnbjaaaGreat
namespace Go.Proofs.YtghfigeepnbjaaaGreat
open Go.RowKit Go.ChangeShapes Go.WideShapes
section
variable {P : Program}
theorem array_all {H : Type} (enc : TypeId × Value → H) (w : World) (base : Nat) (spare : Nat → Bool) (held : Bool) (fuel : Nat) (cs : List Value) {e : TypeId} {ls : List LeafP} (he : Reads P e ls) {n : Nat} (hlen : cs.length = n * ls.length)
    (h : ∀ i : Nat, i < n → ∃ y, DataW.trod enc P w base spare held fuel e ((cs.drop (i * ls.length)).take ls.length) = some y) :
    ∀ k : Nat, k ≤ n → AllL w (List.replicate k ls).flatten (cs.drop ((n - k) * ls.length))
  | 0, _ => by
    rw [Nat.sub_zero, List.drop_of_length_le (by omega)]
    trivial
  | k + 1, hk => by
    have ih := array_all enc w base spare held fuel cs he hlen h k (by omega)
    obtain ⟨y, hy⟩ := h (n - (k + 1)) (by omega)
    have h1 := he.2 enc w base spare held fuel _ y hy
    have h3 := h1.append_ ih
    have e1 : (n - k) * ls.length = (n - (k + 1)) * ls.length + ls.length := by
      rw [show n - k = n - (k + 1) + 1 by omega, Nat.add_mul, Nat.one_mul]
    rw [e1, ← List.drop_drop, List.take_append_drop] at h3
    rw [List.replicate_succ, List.flatten_cons]
    exact h3
theorem reads_array {t e : TypeId} {n : Nat} {ls ls' : List LeafP} (ht : P.underlying t = some (.array n e)) (hc : P.cellsOf t = n * ls.length) (he : Reads P e ls) (hl : (List.replicate n ls).flatten = ls') : Reads P t ls' := by
  subst hl
  refine ⟨by simp [hc], fun enc w base spare held fuel cs x h => ?_⟩
  obtain ⟨xs, m, _, _, hlen, hxl, hg⟩ := DataW.trod_array ht h
  have := array_all enc w base spare held m cs he (n := n) (by rw [hlen, hc]) (fun i hi => by
    have h1 := hg i hi
    rw [he.1] at h1
    exact ⟨xs[i]'(by rw [hxl]; exact hi), h1.trans (List.getElem?_eq_getElem (by rw [hxl]; exact hi))⟩) n (Nat.le_refl _)
  rwa [Nat.sub_self, Nat.zero_mul, List.drop_zero] at this
end
end Go.Proofs.YtghfigeepnbjaaaGreat
