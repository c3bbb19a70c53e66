/-
  A text as a value. How an argument reads, cell by cell, whatever its type (integers, bools, texts, structs, arrays, slices). Rows that come in, as lists of whatever says their cells. No condition.
-/
import Derived.Test.YtfniieigeofbdaaP1
import Derived.WalkKit
import Derived.ProofKit
import Derived.Deep.Slices
import Derived.OpenShut
import Derived.Test.YtfniieigeofbdaaP5
namespace Go.Proofs.Ytfniieigeofbdaa
abbrev S (l : List UInt8) : Value := .string ⟨l.toArray⟩
theorem toS (s : ByteArray) : ∃ l : List UInt8, s = ⟨l.toArray⟩ ∧ l.length = s.size := ⟨s.data.toList, rfl, rfl⟩
end Go.Proofs.Ytfniieigeofbdaa
namespace Go.Proofs.Ytfniieigeofbdaa
open Go.RowKit Go.ChangeShapes Go.WideShapes

/-- What one cell holds. -/
abbrev LeafP := World → Value → Prop
def intL (k : IntKind) : LeafP := fun _ v => ∃ n, v = .int k n ∧ (Lit.int k n).wf = true
def boolL : LeafP := fun _ v => ∃ b, v = .bool b
def strL : LeafP := fun _ v => ∃ s : ByteArray, v = .string s ∧ s.size ≤ maxLen
/-- Cells, one after the other. -/
def AllL (w : World) : List LeafP → List Value → Prop
  | [], [] => True
  | l :: ls, v :: vs => l w v ∧ AllL w ls vs
  | _, _ => False
/-- n such elements from an address on. -/
def RowsAt (ls : List LeafP) (w : World) (a : Option Addr) (n : Nat) : Prop :=
  0 < n → ∃ b off, a = some ⟨b, off, none⟩ ∧ b < w.heap.size ∧ ∀ i, i < n → ∃ cs, AllL w ls cs ∧ ∀ j u, cs[j]? = some u → w.cell? ⟨b, off + i * ls.length + j, none⟩ = some u
/-- A slice of such elements. -/
def rowsL (ls : List LeafP) : LeafP := fun w v => ∃ (a : Option Addr) (n cap : Nat), v = .slice a n cap ∧ n ≤ cap ∧ cap ≤ maxLen ∧ RowsAt ls w a n

theorem AllL.len {w : World} : ∀ {ls : List LeafP} {cs : List Value}, AllL w ls cs → cs.length = ls.length
  | [], [], _ => rfl
  | _ :: _, _ :: _, h => by simp [AllL.len h.2]
  | [], _ :: _, h => h.elim
  | _ :: _, [], h => h.elim
theorem AllL.nil_ {w : World} {cs : List Value} (h : AllL w [] cs) : cs = [] := by
  cases cs with
  | nil => rfl
  | cons _ _ => exact h.elim
theorem AllL.cons_ {w : World} {l : LeafP} {ls : List LeafP} {cs : List Value} (h : AllL w (l :: ls) cs) : ∃ v vs, cs = v :: vs ∧ l w v ∧ AllL w ls vs := by
  cases cs with
  | nil => exact h.elim
  | cons v vs => exact ⟨v, vs, rfl, h.1, h.2⟩
theorem AllL.append_ {w : World} : ∀ {ls ms : List LeafP} {cs ds : List Value}, AllL w ls cs → AllL w ms ds → AllL w (ls ++ ms) (cs ++ ds)
  | [], _, [], _, _, k => k
  | _ :: _, _, _ :: _, _, h, k => ⟨h.1, AllL.append_ h.2 k⟩
  | [], _, _ :: _, _, h, _ => h.elim
  | _ :: _, _, [], _, h, _ => h.elim

section
variable {P : Program}
/-- A type's cells read as these. -/
def Reads (P : Program) (t : TypeId) (ls : List LeafP) : Prop :=
  P.cellsOf t = ls.length ∧ ∀ {H : Type} (enc : TypeId × Value → H) (w : World) (base : Nat) (spare : Nat → Bool) (held : Bool) (fuel : Nat) (cs : List Value) (x : DataW H × List MemPlace),
    DataW.trod enc P w base spare held fuel t cs = some x → AllL w ls cs

theorem reads_int {t : TypeId} {k : IntKind} (ht : P.underlying t = some (.int k)) (hc : P.cellsOf t = 1) : Reads P t [intL k] :=
  ⟨hc, fun _ _ _ _ _ _ _ _ h => by
    obtain ⟨n, rfl, _, hn⟩ := DataW.trod_int ht h
    exact ⟨⟨n, rfl, hn⟩, trivial⟩⟩
theorem reads_str {t : TypeId} (ht : P.underlying t = some .string) (hc : P.cellsOf t = 1) : Reads P t [strL] :=
  ⟨hc, fun _ _ _ _ _ _ _ _ h => by
    obtain ⟨n, rfl, _, hn⟩ := DataW.trod_string ht h
    exact ⟨⟨n, rfl, hn⟩, trivial⟩⟩

/-- Fields, one after the other. -/
def FieldsR (P : Program) : Nat → List Field → List LeafP → Prop
  | _, [], ls => ls = []
  | off, f :: fs, ls => f.offset = off ∧ ∃ l1 l2, Reads P f.type l1 ∧ ls = l1 ++ l2 ∧ FieldsR P (off + l1.length) fs l2

theorem fields_all {H : Type} (enc : TypeId × Value → H) (w : World) (base : Nat) (spare : Nat → Bool) (held : Bool) (fuel : Nat) (cs : List Value) :
    ∀ (fs : List Field) (off : Nat) (ls : List LeafP), FieldsR P off fs ls → cs.length = off + ls.length →
      (∀ f ∈ fs, ∃ y, DataW.trod enc P w base spare held fuel f.type ((cs.drop f.offset).take (P.cellsOf f.type)) = some y) → AllL w ls (cs.drop off)
  | [], off, ls, h, hl, _ => by
    have h : ls = [] := h
    subst h
    rw [List.drop_of_length_le (by simp at hl; omega)]
    trivial
  | f :: fs, off, ls, h, hl, hf => by
    obtain ⟨ho, l1, l2, hr, rfl, hfs⟩ := h
    obtain ⟨y, hy⟩ := hf f (List.mem_cons_self ..)
    have h1 := hr.2 enc w base spare held fuel _ y hy
    rw [ho, hr.1] at h1
    have h2 := fields_all enc w base spare held fuel cs fs (off + l1.length) l2 hfs (by simp at hl; omega) (fun g hg => hf g (List.mem_cons_of_mem _ hg))
    have h3 := h1.append_ h2
    rw [← List.drop_drop, List.take_append_drop] at h3
    exact h3

theorem reads_struct {t : TypeId} {fs : Array Field} {ls : List LeafP} (ht : P.underlying t = some (.struct fs)) (hc : P.cellsOf t = ls.length) (hf : FieldsR P 0 fs.toList ls) : Reads P t ls :=
  ⟨hc, fun enc w base spare held fuel cs x h => by
    obtain ⟨xs, n, _, _, hlen, hxl, hg⟩ := DataW.trod_struct ht h
    have := fields_all (P := P) enc w base spare held n cs fs.toList 0 ls hf (by rw [hlen, hc]; simp) (fun f hm => by
      obtain ⟨j, hj, rfl⟩ := List.getElem_of_mem hm
      have hj' : j < fs.size := by simpa using hj
      exact ⟨_, (hg j _ (Array.getElem?_eq_getElem hj')).trans (List.getElem?_eq_getElem (by omega))⟩)
    simpa using this⟩

theorem reads_slice {t e : TypeId} {ls : List LeafP} (ht : P.underlying t = some (.slice e)) (hc : P.cellsOf t = 1) (he : Reads P e ls) (hpos : 0 < ls.length) : Reads P t [rowsL ls] :=
  ⟨hc, fun enc w base spare held fuel cs x h => by
    rcases Deep.open_slice ht h with ⟨rfl, _⟩ | ⟨a, len, cap, m, n, D, Pl, rfl, hb, hl, hm, hmm, _, hx⟩
    · exact ⟨⟨none, 0, 0, rfl, Nat.le_refl _, Nat.zero_le _, fun h => absurd h (by omega)⟩, trivial⟩
    · refine ⟨⟨some a, len, cap, rfl, hl, hm, fun hpos' => ?_⟩, trivial⟩
      have hlm : len ≤ m := by rw [hmm]; split <;> omega
      have key : ∀ i, i < len → ∃ cs, AllL w ls cs ∧ ∀ j u, cs[j]? = some u → w.cell? (a.add (i * ls.length + j)) = some u := by
        intro i hi
        obtain ⟨cs', h1, h2⟩ := hx i (by omega)
        have hall := he.2 enc w base spare held n cs' _ h2
        obtain ⟨_, hcl, hat⟩ := World.cells?_some h1
        refine ⟨cs', hall, fun j u hu => ?_⟩
        have hj : j < cs'.length := (List.getElem?_eq_some_iff.1 hu).1
        have := hat j (by omega)
        rw [he.1, Deep.add_add] at this
        rw [this, hu]
      obtain ⟨cs0, hall0, hat0⟩ := key 0 hpos'
      have hl0 : 0 < cs0.length := by rw [hall0.len]; exact hpos
      have hc0 := hat0 0 _ (List.getElem?_eq_getElem hl0)
      obtain ⟨b, off, spot⟩ := a
      have hs : spot = none := by simpa [Addr.add] using World.cell?_spot hc0
      subst hs
      have hadd : ∀ k, (⟨b, off, none⟩ : Addr).add k = ⟨b, off + k, none⟩ := fun k => by unfold Addr.add; split <;> simp_all
      have hlt := World.block_lt_of_cell? w _ hc0
      rw [hadd] at hlt
      refine ⟨b, off, rfl, hlt, fun i hi => ?_⟩
      obtain ⟨cs, hcs, hat⟩ := key i hi
      refine ⟨cs, hcs, fun j u hu => ?_⟩
      have := hat j u hu
      rw [hadd] at this
      simpa [Nat.add_assoc] using this⟩

/-- An argument of one cell. -/
theorem reads_one {t : TypeId} {l : LeafP} (hr : Reads P t [l]) {H : Type} {enc : TypeId × Value → H} {w : World} {base : Nat} {spare : Nat → Bool} {held : Bool} {v : Value} {d : DataW H} {p : List MemPlace}
    (hv : v.cells = #[v]) (h : DataW.Trod enc P w base spare held t v d p) : l w v := by
  obtain ⟨fuel, hf⟩ := h
  rw [hv] at hf
  exact (hr.2 enc w base spare held fuel _ _ hf).1
end
end Go.Proofs.Ytfniieigeofbdaa
namespace Go.Proofs.Ytfniieigeofbdaa
theorem rows_fn {ls : List LeafP} {w : World} {a : Option Addr} {n : Nat} (h : RowsAt ls w a n) : ∃ f : Nat → List Value, ∀ i, i < n → ∃ b off, a = some ⟨b, off, none⟩ ∧ b < w.heap.size ∧ AllL w ls (f i) ∧ ∀ j u, (f i)[j]? = some u → w.cell? ⟨b, off + i * ls.length + j, none⟩ = some u := by
  have key : ∀ i, ∃ cs : List Value, i < n → ∃ b off, a = some ⟨b, off, none⟩ ∧ b < w.heap.size ∧ AllL w ls cs ∧ ∀ j u, cs[j]? = some u → w.cell? ⟨b, off + i * ls.length + j, none⟩ = some u := fun i => by
    by_cases hi : i < n
    · obtain ⟨b, off, rfl, hb, hx⟩ := h (by omega)
      obtain ⟨cs, hall, hat⟩ := hx i hi
      exact ⟨cs, fun _ => ⟨b, off, rfl, hb, hall, hat⟩⟩
    · exact ⟨[], fun h => absurd h hi⟩
  exact ⟨fun i => (key i).choose, fun i => (key i).choose_spec⟩
theorem SliceV.congr {w : World} {v : Value} {sz n : Nat} {f g : Nat → Nat → Value} (h : SliceV w v sz n f) (hf : ∀ r c, r < n → c < sz → f r c = g r c) : SliceV w v sz n g := by
  obtain ⟨a, cap, rfl, h1, h2, h3⟩ := h
  refine ⟨a, cap, rfl, h1, h2, fun hn => ?_⟩
  obtain ⟨b, off, rfl, hb, hc⟩ := h3 hn
  exact ⟨b, off, rfl, hb, fun r c hr hcz => (hc r c hr hcz).trans (by rw [hf r c hr hcz])⟩
end Go.Proofs.Ytfniieigeofbdaa
