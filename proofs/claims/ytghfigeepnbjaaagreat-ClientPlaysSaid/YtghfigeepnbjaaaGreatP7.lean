/-
  A text as a value. The operations: Check (the program's). What keys have, and what operations do: plain lists. No program in sight, no condition. How an argument reads, cell by cell, whatever its type (integers, bools, texts, structs, arrays, slices). Rows that come in, as lists of whatever says their cells. A chain as a value; are two the same? A frame, and what is sent: as values. No program in sight but for types, no condition. The operations: Reads (the program's). Rows that come in, as lists. The walks over the document's operations (Check), and the law's Great. No condition.
-/
import Derived.Test.YtghfigeepnbjaaaGreatP1
import Derived.Test.YtghfigeepnbjaaaGreatProg
import Derived.WalkKit
import Derived.WalkSpells
import Derived.WalkLawsBesides
import Derived.Deep.QuietTactic
import Derived.BigQuiet
import Derived.Deep.Light
import Derived.Deep.RegionHeld3
import Derived.Test.YtghfigeepnbjaaaGreatP5
import Derived.ProofKit
import Derived.Deep.Slices
import Derived.OpenShut
namespace Go.Proofs.YtghfigeepnbjaaaGreat
abbrev S (l : List UInt8) : Value := .string ⟨l.toArray⟩
theorem toS (s : ByteArray) : ∃ l : List UInt8, s = ⟨l.toArray⟩ ∧ l.length = s.size := ⟨s.data.toList, rfl, rfl⟩
end Go.Proofs.YtghfigeepnbjaaaGreat
namespace Go.Proofs.YtghfigeepnbjaaaGreat
open Go.RowKit
attribute [local go_sem] ByteArray.mk_append_mk

theorem ret_int {k : IntKind} {a b : Int} (h : a = b) : Ending.returned (.int k a) = .returned (.int k b) := by rw [h]
/-- An operation. -/
structure OpM where
  kind : Int
  key : List UInt8
  value : List UInt8
  version : Int
  deriving DecidableEq

def OpM.cells (o : OpM) : Array Value := #[.int .i64 o.kind, S o.key, S o.value, .int .i64 o.version]
abbrev opV (o : OpM) : Value := .agg o.cells

/-- What is wrong with it. -/
def chkO (o : OpM) : Int :=
  if o.kind < 1 ∨ 4 < o.kind ∨ o.key = [] ∨ o.version < 0 ∨ 4096 < o.version ∨ (o.version ≠ 0 ∧ o.kind ≠ 4) ∨ (o.value ≠ [] ∧ o.kind ≠ 2 ∧ o.kind ≠ 4) then 2
  else if 16 < o.key.length ∨ 64 < o.value.length then 3 else 0

set_option maxHeartbeats 400000 in
theorem valued_any (k : Int) (w : World) : Calls Tryz.prog 54 #[.int .i64 k] w fun e w' => e = .returned (.bool (k == 2 || k == 4)) ∧ w = w' := by
  by_cases h2 : k = 2
  · subst h2
    go_enter Tryz.func54, Tryz.ntmps54
    go_wp2
    go_ret
    exact ⟨rfl, rfl⟩
  · have h2' : (k == 2) = false := by simpa using h2
    go_enter Tryz.func54, Tryz.ntmps54
    go_wp2
    go_ret
    exact ⟨by simp [h2'], rfl⟩

set_option maxRecDepth 100000 in
set_option maxHeartbeats 2000000 in
theorem check_any (o : OpM) (w : World) : Calls Tryz.prog 28 #[opV o] w fun e w' => e = .returned (.int .i64 (chkO o)) ∧ w.grownBy w' none := by
  obtain ⟨kind, key, value, version⟩ := o
  simp only [opV, OpM.cells]
  go_enter Tryz.func28, Tryz.ntmps28
  go_wp2_with (go_at_call 54; refine (valued_any _ _).mono ?_; rintro e w' ⟨rfl, rfl⟩)
  all_goals
    go_ret
    refine ⟨ret_int ?_, only_alloc (only_refl _ _) _⟩
    go_light
    first
      | (simp_all [chkO]; done)
      | (simp_all [chkO]; omega)

theorem check_at (o : OpM) (e : Int) (w : World) (h : chkO o = e) : Calls Tryz.prog 28 #[opV o] w fun x w' => x = .returned (.int .i64 e) ∧ w.grownBy w' none := by
  rw [← h]; exact check_any o w

end Go.Proofs.YtghfigeepnbjaaaGreat
namespace Go.Proofs.YtghfigeepnbjaaaGreat
/-- A result. -/
structure ResM where
  code : Int
  value : List UInt8
  version : Int
  pos : Int
  deriving DecidableEq
def resC (r : ResM) : List Value := [.int .i64 r.code, S r.value, .int .i64 r.version, .int .i64 r.pos]
def resZ : ResM := ⟨0, [], 0, 0⟩
abbrev resV (r : ResM) : Value := .agg ⟨resC r⟩
/-- Keys with values and versions, in the order in which they came. -/
abbrev KC := List UInt8 × List UInt8 × Int
def kcs (cs : List KC) : List (Value × Value) := cs.map fun c => (S c.1, .agg #[S c.2.1, .int .i64 c.2.2])
def findC : List KC → List UInt8 → Option (List UInt8 × Int)
  | [], _ => none
  | c :: r, k => if c.1 = k then some c.2 else findC r k
def setC : List KC → List UInt8 → List UInt8 → Int → List KC
  | [], k, v, n => [(k, v, n)]
  | c :: r, k, v, n => if c.1 = k then (k, v, n) :: r else c :: setC r k v n
def delC : List KC → List UInt8 → List KC
  | [], _ => []
  | c :: r, k => if c.1 = k then r else c :: delC r k
/-- What a key has, behind so many entries. -/
def lookM (q : Option (List UInt8 × Int)) (n : Int) : ResM := match q with
  | some (v, ver) => ⟨1, v, ver, n⟩
  | none => ⟨2, [], 0, n⟩
/-- What an operation does to what its key has (none: it stays), and its result. -/
inductive Eff where
  | stay
  | gone
  | put (v : List UInt8) (n : Int)
def effM (q : Option (List UInt8 × Int)) (n : Int) (o : OpM) : Eff × ResM :=
  if n < 1 ∨ 4096 < n ∨ ¬ chkO o = 0 then (.stay, resZ)
  else if o.kind = 1 then (.stay, lookM q n)
  else if o.kind = 3 then (match q with | none => (.stay, ⟨2, [], 0, n⟩) | some _ => (.gone, ⟨1, [], 0, n⟩))
  else if o.kind = 4 ∧ ¬ (q.getD ([], 0)).2 = o.version then (.stay, ⟨3, (q.getD ([], 0)).1, (q.getD ([], 0)).2, n⟩)
  else (.put o.value n, ⟨1, [], n, n⟩)
def effC (cs : List KC) (k : List UInt8) : Eff → List KC
  | .stay => cs
  | .gone => delC cs k
  | .put v n => setC cs k v n
def applyM (cs : List KC) (n : Int) (o : OpM) : List KC × ResM := (effC cs o.key (effM (findC cs o.key) n o).1, (effM (findC cs o.key) n o).2)
/-- An entry. -/
structure EntM where
  index : Int
  client : Int
  seq : Int
  op : OpM
  deriving DecidableEq
def entC (e : EntM) : List Value := [.int .i64 e.index, .int .i64 e.client, .int .i64 e.seq, .int .i64 e.op.kind, S e.op.key, S e.op.value, .int .i64 e.op.version]
def entZ : EntM := ⟨0, 0, 0, ⟨0, [], [], 0⟩⟩
abbrev entV (e : EntM) : Value := .agg ⟨entC e⟩
abbrev resS (r : ResM) : SV := .agg [.v (.int .i64 r.code), .v (S r.value), .v (.int .i64 r.version), .v (.int .i64 r.pos)]
abbrev entS (e : EntM) : SV := .agg [.v (.int .i64 e.index), .v (.int .i64 e.client), .v (.int .i64 e.seq), .v (.int .i64 e.op.kind), .v (S e.op.key), .v (S e.op.value), .v (.int .i64 e.op.version)]
end Go.Proofs.YtghfigeepnbjaaaGreat
namespace Go.Proofs.YtghfigeepnbjaaaGreat
open Go.RowKit Go.ChangeShapes Go.WideShapes

/-- What one cell holds. -/
abbrev LeafP := World → Value → Prop
def intL (k : IntKind) : LeafP := fun _ v => ∃ n, v = .int k n ∧ (Lit.int k n).wf = true
def boolL : LeafP := fun _ v => ∃ b, v = .bool b
def strL : LeafP := fun _ v => ∃ s : ByteArray, v = .string s ∧ s.size ≤ maxLen
/-- Cells, one after the other. -/
def AllL (w : World) : List LeafP → List Value → Prop
  | [], [] => True
  | l :: ls, v :: vs => l w v ∧ AllL w ls vs
  | _, _ => False
/-- n such elements from an address on. -/
def RowsAt (ls : List LeafP) (w : World) (a : Option Addr) (n : Nat) : Prop :=
  0 < n → ∃ b off, a = some ⟨b, off, none⟩ ∧ b < w.heap.size ∧ ∀ i, i < n → ∃ cs, AllL w ls cs ∧ ∀ j u, cs[j]? = some u → w.cell? ⟨b, off + i * ls.length + j, none⟩ = some u
/-- A slice of such elements. -/
def rowsL (ls : List LeafP) : LeafP := fun w v => ∃ (a : Option Addr) (n cap : Nat), v = .slice a n cap ∧ n ≤ cap ∧ cap ≤ maxLen ∧ RowsAt ls w a n

theorem AllL.len {w : World} : ∀ {ls : List LeafP} {cs : List Value}, AllL w ls cs → cs.length = ls.length
  | [], [], _ => rfl
  | _ :: _, _ :: _, h => by simp [AllL.len h.2]
  | [], _ :: _, h => h.elim
  | _ :: _, [], h => h.elim
theorem AllL.nil_ {w : World} {cs : List Value} (h : AllL w [] cs) : cs = [] := by
  cases cs with
  | nil => rfl
  | cons _ _ => exact h.elim
theorem AllL.cons_ {w : World} {l : LeafP} {ls : List LeafP} {cs : List Value} (h : AllL w (l :: ls) cs) : ∃ v vs, cs = v :: vs ∧ l w v ∧ AllL w ls vs := by
  cases cs with
  | nil => exact h.elim
  | cons v vs => exact ⟨v, vs, rfl, h.1, h.2⟩
theorem AllL.append_ {w : World} : ∀ {ls ms : List LeafP} {cs ds : List Value}, AllL w ls cs → AllL w ms ds → AllL w (ls ++ ms) (cs ++ ds)
  | [], _, [], _, _, k => k
  | _ :: _, _, _ :: _, _, h, k => ⟨h.1, AllL.append_ h.2 k⟩
  | [], _, _ :: _, _, h, _ => h.elim
  | _ :: _, _, [], _, h, _ => h.elim

section
variable {P : Program}
/-- A type's cells read as these. -/
def Reads (P : Program) (t : TypeId) (ls : List LeafP) : Prop :=
  P.cellsOf t = ls.length ∧ ∀ {H : Type} (enc : TypeId × Value → H) (w : World) (base : Nat) (spare : Nat → Bool) (held : Bool) (fuel : Nat) (cs : List Value) (x : DataW H × List MemPlace),
    DataW.trod enc P w base spare held fuel t cs = some x → AllL w ls cs

theorem reads_int {t : TypeId} {k : IntKind} (ht : P.underlying t = some (.int k)) (hc : P.cellsOf t = 1) : Reads P t [intL k] :=
  ⟨hc, fun _ _ _ _ _ _ _ _ h => by
    obtain ⟨n, rfl, _, hn⟩ := DataW.trod_int ht h
    exact ⟨⟨n, rfl, hn⟩, trivial⟩⟩
theorem reads_str {t : TypeId} (ht : P.underlying t = some .string) (hc : P.cellsOf t = 1) : Reads P t [strL] :=
  ⟨hc, fun _ _ _ _ _ _ _ _ h => by
    obtain ⟨n, rfl, _, hn⟩ := DataW.trod_string ht h
    exact ⟨⟨n, rfl, hn⟩, trivial⟩⟩

/-- Fields, one after the other. -/
def FieldsR (P : Program) : Nat → List Field → List LeafP → Prop
  | _, [], ls => ls = []
  | off, f :: fs, ls => f.offset = off ∧ ∃ l1 l2, Reads P f.type l1 ∧ ls = l1 ++ l2 ∧ FieldsR P (off + l1.length) fs l2

theorem fields_all {H : Type} (enc : TypeId × Value → H) (w : World) (base : Nat) (spare : Nat → Bool) (held : Bool) (fuel : Nat) (cs : List Value) :
    ∀ (fs : List Field) (off : Nat) (ls : List LeafP), FieldsR P off fs ls → cs.length = off + ls.length →
      (∀ f ∈ fs, ∃ y, DataW.trod enc P w base spare held fuel f.type ((cs.drop f.offset).take (P.cellsOf f.type)) = some y) → AllL w ls (cs.drop off)
  | [], off, ls, h, hl, _ => by
    have h : ls = [] := h
    subst h
    rw [List.drop_of_length_le (by simp at hl; omega)]
    trivial
  | f :: fs, off, ls, h, hl, hf => by
    obtain ⟨ho, l1, l2, hr, rfl, hfs⟩ := h
    obtain ⟨y, hy⟩ := hf f (List.mem_cons_self ..)
    have h1 := hr.2 enc w base spare held fuel _ y hy
    rw [ho, hr.1] at h1
    have h2 := fields_all enc w base spare held fuel cs fs (off + l1.length) l2 hfs (by simp at hl; omega) (fun g hg => hf g (List.mem_cons_of_mem _ hg))
    have h3 := h1.append_ h2
    rw [← List.drop_drop, List.take_append_drop] at h3
    exact h3

theorem reads_struct {t : TypeId} {fs : Array Field} {ls : List LeafP} (ht : P.underlying t = some (.struct fs)) (hc : P.cellsOf t = ls.length) (hf : FieldsR P 0 fs.toList ls) : Reads P t ls :=
  ⟨hc, fun enc w base spare held fuel cs x h => by
    obtain ⟨xs, n, _, _, hlen, hxl, hg⟩ := DataW.trod_struct ht h
    have := fields_all (P := P) enc w base spare held n cs fs.toList 0 ls hf (by rw [hlen, hc]; simp) (fun f hm => by
      obtain ⟨j, hj, rfl⟩ := List.getElem_of_mem hm
      have hj' : j < fs.size := by simpa using hj
      exact ⟨_, (hg j _ (Array.getElem?_eq_getElem hj')).trans (List.getElem?_eq_getElem (by omega))⟩)
    simpa using this⟩

theorem reads_slice {t e : TypeId} {ls : List LeafP} (ht : P.underlying t = some (.slice e)) (hc : P.cellsOf t = 1) (he : Reads P e ls) (hpos : 0 < ls.length) : Reads P t [rowsL ls] :=
  ⟨hc, fun enc w base spare held fuel cs x h => by
    rcases Deep.open_slice ht h with ⟨rfl, _⟩ | ⟨a, len, cap, m, n, D, Pl, rfl, hb, hl, hm, hmm, _, hx⟩
    · exact ⟨⟨none, 0, 0, rfl, Nat.le_refl _, Nat.zero_le _, fun h => absurd h (by omega)⟩, trivial⟩
    · refine ⟨⟨some a, len, cap, rfl, hl, hm, fun hpos' => ?_⟩, trivial⟩
      have hlm : len ≤ m := by rw [hmm]; split <;> omega
      have key : ∀ i, i < len → ∃ cs, AllL w ls cs ∧ ∀ j u, cs[j]? = some u → w.cell? (a.add (i * ls.length + j)) = some u := by
        intro i hi
        obtain ⟨cs', h1, h2⟩ := hx i (by omega)
        have hall := he.2 enc w base spare held n cs' _ h2
        obtain ⟨_, hcl, hat⟩ := World.cells?_some h1
        refine ⟨cs', hall, fun j u hu => ?_⟩
        have hj : j < cs'.length := (List.getElem?_eq_some_iff.1 hu).1
        have := hat j (by omega)
        rw [he.1, Deep.add_add] at this
        rw [this, hu]
      obtain ⟨cs0, hall0, hat0⟩ := key 0 hpos'
      have hl0 : 0 < cs0.length := by rw [hall0.len]; exact hpos
      have hc0 := hat0 0 _ (List.getElem?_eq_getElem hl0)
      obtain ⟨b, off, spot⟩ := a
      have hs : spot = none := by simpa [Addr.add] using World.cell?_spot hc0
      subst hs
      have hadd : ∀ k, (⟨b, off, none⟩ : Addr).add k = ⟨b, off + k, none⟩ := fun k => by unfold Addr.add; split <;> simp_all
      have hlt := World.block_lt_of_cell? w _ hc0
      rw [hadd] at hlt
      refine ⟨b, off, rfl, hlt, fun i hi => ?_⟩
      obtain ⟨cs, hcs, hat⟩ := key i hi
      refine ⟨cs, hcs, fun j u hu => ?_⟩
      have := hat j u hu
      rw [hadd] at this
      simpa [Nat.add_assoc] using this⟩

/-- An argument of one cell. -/
theorem reads_one {t : TypeId} {l : LeafP} (hr : Reads P t [l]) {H : Type} {enc : TypeId × Value → H} {w : World} {base : Nat} {spare : Nat → Bool} {held : Bool} {v : Value} {d : DataW H} {p : List MemPlace}
    (hv : v.cells = #[v]) (h : DataW.Trod enc P w base spare held t v d p) : l w v := by
  obtain ⟨fuel, hf⟩ := h
  rw [hv] at hf
  exact (hr.2 enc w base spare held fuel _ _ hf).1
/-- A struct by value. -/
theorem reads_agg {t : TypeId} {fs : Array Field} {ls : List LeafP} (ht : P.underlying t = some (.struct fs)) (hr : Reads P t ls) {H : Type} {enc : TypeId × Value → H} {w : World} {base : Nat} {spare : Nat → Bool} {held : Bool} {r : Reach} {b0 : Nat} {v : Value} {d : DataW H} {p : List MemPlace}
    (hv : Value.okWide P w r b0 t v) (h : DataW.Trod enc P w base spare held t v d p) : ∃ cs : List Value, v = .agg cs.toArray ∧ AllL w ls cs := by
  obtain ⟨cs, rfl, _⟩ := okWide_struct ht hv
  obtain ⟨fuel, hf⟩ := h
  exact ⟨cs.toList, by simp, hr.2 enc w base spare held fuel _ _ hf⟩
end
end Go.Proofs.YtghfigeepnbjaaaGreat
namespace Go.Proofs.YtghfigeepnbjaaaGreat
theorem rows_fn {ls : List LeafP} {w : World} {a : Option Addr} {n : Nat} (h : RowsAt ls w a n) : ∃ f : Nat → List Value, ∀ i, i < n → ∃ b off, a = some ⟨b, off, none⟩ ∧ b < w.heap.size ∧ AllL w ls (f i) ∧ ∀ j u, (f i)[j]? = some u → w.cell? ⟨b, off + i * ls.length + j, none⟩ = some u := by
  have key : ∀ i, ∃ cs : List Value, i < n → ∃ b off, a = some ⟨b, off, none⟩ ∧ b < w.heap.size ∧ AllL w ls cs ∧ ∀ j u, cs[j]? = some u → w.cell? ⟨b, off + i * ls.length + j, none⟩ = some u := fun i => by
    by_cases hi : i < n
    · obtain ⟨b, off, rfl, hb, hx⟩ := h (by omega)
      obtain ⟨cs, hall, hat⟩ := hx i hi
      exact ⟨cs, fun _ => ⟨b, off, rfl, hb, hall, hat⟩⟩
    · exact ⟨[], fun h => absurd h hi⟩
  exact ⟨fun i => (key i).choose, fun i => (key i).choose_spec⟩
/-- Rows as a list of anything that says their cells. -/
theorem rows_list {α : Type} {ls : List LeafP} {w : World} {a : Option Addr} {n : Nat} (h : RowsAt ls w a n) (d : α) (cell : α → Nat → Value) (hd : ∀ cs : List Value, AllL w ls cs → ∃ x : α, ∀ j, j < ls.length → cs[j]? = some (cell x j)) :
    ∃ zs : List α, zs.length = n ∧ RowOk w a ls.length n (fun r c => cell (zs.getD r d) c) ∧ ∀ x ∈ zs, ∃ cs : List Value, AllL w ls cs ∧ ∀ j, j < ls.length → cs[j]? = some (cell x j) := by
  obtain ⟨f, hf⟩ := rows_fn h
  have key : ∀ i, ∃ x : α, i < n → ∀ j, j < ls.length → (f i)[j]? = some (cell x j) := fun i => by
    by_cases hi : i < n
    · obtain ⟨b, off, h0, hb, hall, hat⟩ := hf i hi
      obtain ⟨x, hx⟩ := hd _ hall
      exact ⟨x, fun _ => hx⟩
    · exact ⟨d, fun h => absurd h hi⟩
  refine ⟨(List.range n).map fun i => (key i).choose, by simp, fun hn => ?_, fun x hx => ?_⟩
  · obtain ⟨b, off, h0, hb, _, _⟩ := hf 0 hn
    refine ⟨b, off, h0, hb, fun r c hr hc => ?_⟩
    obtain ⟨b', off', h0', _, hall, hat⟩ := hf r hr
    rw [h0] at h0'
    cases h0'
    have := (key r).choose_spec hr c hc
    rw [hat c _ this]
    simp [List.getD, hr]
  · obtain ⟨i, hi, rfl⟩ := List.mem_map.1 hx
    have hi := List.mem_range.1 hi
    obtain ⟨b, off, h0, hb, hall, hat⟩ := hf i hi
    exact ⟨f i, hall, (key i).choose_spec hi⟩
theorem SliceV.congr {w : World} {v : Value} {sz n : Nat} {f g : Nat → Nat → Value} (h : SliceV w v sz n f) (hf : ∀ r c, r < n → c < sz → f r c = g r c) : SliceV w v sz n g := by
  obtain ⟨a, cap, rfl, h1, h2, h3⟩ := h
  refine ⟨a, cap, rfl, h1, h2, fun hn => ?_⟩
  obtain ⟨b, off, rfl, hb, hc⟩ := h3 hn
  exact ⟨b, off, rfl, hb, fun r c hr hcz => (hc r c hr hcz).trans (by rw [hf r c hr hcz])⟩
end Go.Proofs.YtghfigeepnbjaaaGreat
namespace Go.Proofs.YtghfigeepnbjaaaGreat

structure ChM where
  epoch : Int
  mem : List (Int × Int)
  drain : Int
def chV (c : ChM) (q : Value) : Value := .agg #[.int .i64 c.epoch, q, .int .i64 c.drain]
def chS (c : ChM) (q : SV) : SV := .agg [.v (.int .i64 c.epoch), q, .v (.int .i64 c.drain)]
def memF (ms : List (Int × Int)) : Nat → Nat → Value := fun r c => if c = 0 then .int .i64 (ms.getD r (0, 0)).1 else .int .i64 (ms.getD r (0, 0)).2
def sameCh (a b : ChM) : Bool := (a.epoch == b.epoch) && ((a.drain == b.drain) && (a.mem == b.mem))
/-- A chain's value, with the rows that its members are. -/
abbrev ChSl (w : World) (p : Value) (c : ChM) : Prop := SliceV w p 2 c.mem.length (memF c.mem)
theorem mem_ext {zs ys : List (Int × Int)} (hl : zs.length = ys.length) (h : ∀ j, j < zs.length → zs.getD j (0, 0) = ys.getD j (0, 0)) : zs = ys := by
  apply List.ext_getElem hl
  intro j h1 h2
  have := h j h1
  simpa [List.getD, h1, h2] using this
end Go.Proofs.YtghfigeepnbjaaaGreat
namespace Go.Proofs.YtghfigeepnbjaaaGreat
structure FrM where
  kind : Int
  epoch : Int
  client : Int
  seq : Int
  try' : Int
  cls : Int
  deadline : Int
  op : OpM
  res : ResM
  reason : Int
  ent : EntM
  ch : ChM
  index : Int
  grant : Int
  have' : Int
def opZ : OpM := ⟨0, [], [], 0⟩
def chN : ChM := ⟨0, [], 0⟩
def frZ : FrM := ⟨0, 0, 0, 0, 0, 0, 0, opZ, resZ, 0, entZ, chN, 0, 0, 0⟩
def frC (f : FrM) (q : Value) : List Value := [.int .i64 f.kind, .int .i64 f.epoch, .int .i64 f.client, .int .i64 f.seq, .int .i64 f.try', .int .i64 f.cls, .int .i64 f.deadline, .int .i64 f.op.kind, S f.op.key, S f.op.value, .int .i64 f.op.version,
  .int .i64 f.res.code, S f.res.value, .int .i64 f.res.version, .int .i64 f.res.pos, .int .i64 f.reason, .int .i64 f.ent.index, .int .i64 f.ent.client, .int .i64 f.ent.seq, .int .i64 f.ent.op.kind, S f.ent.op.key, S f.ent.op.value, .int .i64 f.ent.op.version,
  .int .i64 f.ch.epoch, q, .int .i64 f.ch.drain, .int .i64 f.index, .int .i64 f.grant, .int .i64 f.have']
/-- The same, with the members' slice as it is known. -/
abbrev frL (f : FrM) (q : SV) : List SV := [.v (.int .i64 f.kind), .v (.int .i64 f.epoch), .v (.int .i64 f.client), .v (.int .i64 f.seq), .v (.int .i64 f.try'), .v (.int .i64 f.cls), .v (.int .i64 f.deadline), .v (.int .i64 f.op.kind), .v (S f.op.key), .v (S f.op.value), .v (.int .i64 f.op.version),
  .v (.int .i64 f.res.code), .v (S f.res.value), .v (.int .i64 f.res.version), .v (.int .i64 f.res.pos), .v (.int .i64 f.reason), .v (.int .i64 f.ent.index), .v (.int .i64 f.ent.client), .v (.int .i64 f.ent.seq), .v (.int .i64 f.ent.op.kind), .v (S f.ent.op.key), .v (S f.ent.op.value), .v (.int .i64 f.ent.op.version),
  .v (.int .i64 f.ch.epoch), q, .v (.int .i64 f.ch.drain), .v (.int .i64 f.index), .v (.int .i64 f.grant), .v (.int .i64 f.have')]
abbrev frS (f : FrM) (q : SV) : SV := .agg (frL f q)
structure SndM where
  to : Int
  fr : FrM
def sndZ : SndM := ⟨0, frZ⟩
def sndC (x : SndM) (q : Value) : List Value := .int .i64 x.to :: frC x.fr q
abbrev sndS (x : SndM) (q : SV) : SV := .agg (.v (.int .i64 x.to) :: frL x.fr q)
/-- The rows of what is sent; p: where each one's members lie. -/
def sndF (l : List SndM) (p : Nat → Value) : Nat → Nat → Value := fun r c => (sndC (l.getD r sndZ) (p r)).getD c undef
def sndQ (l : List SndM) (p : Nat → Value) (w : World) : Prop := ∀ r, r < l.length → ChSl w (p r) (l.getD r sndZ).fr.ch
end Go.Proofs.YtghfigeepnbjaaaGreat
namespace Go.Proofs.YtghfigeepnbjaaaGreat
open Go.RowKit
set_option maxHeartbeats 400000 in
theorem reads_any (o : OpM) (w : World) : Calls Tryz.prog 56 #[opV o] w fun e w' => e = .returned (.bool (o.kind == 1 && chkO o == 0)) ∧ w.grownBy w' none := by
  have hg := Lib.hid (fun W => check_any o W)
  by_cases h1 : o.kind = 1
  · have hb : (o.kind == 1) = true := by simpa using h1
    rw [hb]
    obtain ⟨kind, key, value, version⟩ := o
    simp only at h1 hb
    subst h1
    generalize hc : chkO _ = c at *
    clear hc hb
    simp only [opV, OpM.cells] at hg ⊢
    go_enter Tryz.func56, Tryz.ntmps56
    go_wp2_with fail
    refine (hg.out _).mono ?_
    rintro e w1 ⟨rfl, h1⟩
    go_wp2
    go_ret
    exact ⟨by simp, only_trans (only_alloc (only_refl _ _) _) h1⟩
  · have hb : (o.kind == 1) = false := by simpa using h1
    rw [hb]
    clear h1 hg
    obtain ⟨kind, key, value, version⟩ := o
    simp only at hb
    simp only [opV, OpM.cells]
    go_enter Tryz.func56, Tryz.ntmps56
    go_wp2
    go_ret
    exact ⟨by simp, only_alloc (only_refl _ _) _⟩

end Go.Proofs.YtghfigeepnbjaaaGreat
namespace Go.Proofs.YtghfigeepnbjaaaGreat
theorem rows_ints {w : World} {a : Option Addr} {n : Nat} (h : RowsAt [intL .i64] w a n) : ∃ zs : List Int, zs.length = n ∧ RowOk w a 1 n (fun r _ => .int .i64 (zs.getD r 0)) := by
  obtain ⟨zs, h1, h2, _⟩ := rows_list h (0 : Int) (fun n _ => .int .i64 n) (fun cs hall => by
    obtain ⟨_, _, rfl, ⟨n0, rfl, w0⟩, m1⟩ := hall.cons_
    obtain rfl := m1.nil_
    exact ⟨n0, fun j hj => by simp at hj; subst hj; rfl⟩)
  exact ⟨zs, h1, h2⟩
theorem rows_mems {w : World} {a : Option Addr} {n : Nat} (h : RowsAt [intL .i64, intL .i64] w a n) : ∃ ms : List (Int × Int), ms.length = n ∧ RowOk w a 2 n (memF ms) := by
  obtain ⟨zs, h1, h2, _⟩ := rows_list h ((0, 0) : Int × Int) (fun m c => if c = 0 then .int .i64 m.1 else .int .i64 m.2) (fun cs hall => by
    obtain ⟨_, _, rfl, ⟨n0, rfl, w0⟩, m1⟩ := hall.cons_
    obtain ⟨_, _, rfl, ⟨n1, rfl, w1⟩, m2⟩ := m1.cons_
    obtain rfl := m2.nil_
    refine ⟨(n0, n1), fun j hj => ?_⟩
    rcases j with _ | _ | j
    · rfl
    · rfl
    · exact absurd hj (by simp))
  exact ⟨zs, h1, h2⟩
end Go.Proofs.YtghfigeepnbjaaaGreat
namespace Go.Proofs.YtghfigeepnbjaaaGreat
open Go.RowKit
attribute [local go_sem] ByteArray.mk_append_mk

set_option maxRecDepth 100000 in
set_option maxHeartbeats 2000000 in
theorem rcheck_any (o : OpM) (w : World) : Calls Tryz.prog 33 #[opV o] w fun e w' => e = .returned (.int .i64 (chkO o)) ∧ w.grownBy w' none := by
  obtain ⟨kind, key, value, version⟩ := o
  simp only [opV, OpM.cells]
  go_enter Tryz.func33, Tryz.ntmps33
  go_wp2
  all_goals
    go_ret
    refine ⟨ret_int ?_, only_alloc (only_refl _ _) _⟩
    go_light
    first
      | (simp_all [chkO]; done)
      | (simp_all [chkO]; omega)
      | (have hv : ¬ value = [] := (by intro h; subst h; simp_all)
         simp_all [chkO]; done)
      | (have hv : ¬ value = [] := (by intro h; subst h; simp_all)
         simp_all [chkO]; omega)

theorem rcheck_at (o : OpM) (e : Int) (w : World) (h : chkO o = e) : Calls Tryz.prog 33 #[opV o] w fun x w' => x = .returned (.int .i64 e) ∧ w.grownBy w' none := by
  rw [← h]; exact rcheck_any o w

end Go.Proofs.YtghfigeepnbjaaaGreat
