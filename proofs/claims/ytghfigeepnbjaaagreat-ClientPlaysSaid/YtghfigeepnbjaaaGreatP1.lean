/-
  Words for memory: a block known whole, and what a call may have changed. What a block that is known whole gives, cell by cell. What a call may have changed: a set of blocks. Symbolic values and the memory that they speak of. What a function's text comes to, over symbolic values. No condition.
-/
import Derived.WalkKit
import Derived.Deep.Draws
import Derived.Lib.Hide
import Derived.Deep.Quiet
import Derived.Laws.Cells
import Derived.Lib.AppendStr
import Derived.Laws.CopyRow
import Derived.Conc.MuLone
import Derived.ChangeKeysEq
import Derived.Shelf.Abstract
import Derived.Deep.AppendLies
namespace Go.Proofs.YtghfigeepnbjaaaGreat
open Go.RowKit

def Blk (w : World) (g : Nat) (t : TypeId) (cs : Array Value) : Prop := w.heap[g]? = some (.cells cs t (0, 0))

section
variable {w w' : World} {g : Nat} {t : TypeId} {cs : Array Value}
theorem Blk.lt (h : Blk w g t cs) : g < w.heap.size := by
  rcases Nat.lt_or_ge g w.heap.size with hlt | hge
  · exact hlt
  · unfold Blk at h; rw [Array.getElem?_eq_none hge] at h; cases h
theorem Blk.cell (h : Blk w g t cs) (i : Nat) : w.cell? ⟨g, i, none⟩ = cs[i]? := cell_of_row w g i cs t (0, 0) h
theorem Blk.frozen (h : Blk w g t cs) (i : Nat) : w.frozen? ⟨g, i, none⟩ = false := by
  unfold Blk at h
  simp [World.frozen?, h]
theorem Blk.new (w : World) (t : TypeId) (cs : Array Value) : Blk (w.alloc (.cells cs t)) w.heap.size t cs := heap_alloc_new w _
theorem Blk.drew (h : Blk w g t cs) : Blk w.drew g t cs := h
theorem Blk.alloc (h : Blk w g t cs) (o : Obj) : Blk (w.alloc o) g t cs := (Below.heap_alloc w o g h.lt).trans h
theorem Blk.set_ (h : Blk w g t cs) (i : Nat) (u : Value) : Blk (w.setCell ⟨g, i, none⟩ u) g t (cs.setIfInBounds i u) := by
  unfold Blk at h ⊢
  simp [World.setCell, Array.getElem?_modify, h]
theorem Blk.far (h : Blk w g t cs) {p : Addr} (hp : g ≠ p.block) (u : Value) : Blk (w.setCell p u) g t cs := (Below.heap_setCell w p u g hp).trans h
theorem Blk.grown {row : Option Nat} (h : Blk w g t cs) (hb : w.grownBy w' row) (hg : some g ≠ row) : Blk w' g t cs := (hb.block g h.lt hg).trans h
theorem Blk.ne_ {g' : Nat} {t' : TypeId} {cs' : Array Value} (h : Blk w g t cs) (h' : Blk w g' t' cs') (hne : t ≠ t') : g ≠ g' := by
  rintro rfl
  unfold Blk at h h'
  rw [h] at h'
  injection h' with h'
  injection h' with _ ht
  exact hne ht
end

theorem only_refl (w : World) (row : Option Nat) : w.grownBy w row := ⟨rfl, rfl, rfl, Nat.le_refl _, fun _ _ _ => rfl⟩
theorem only_trans {a b c : World} {row : Option Nat} (h : a.grownBy b row) (k : b.grownBy c row) : a.grownBy c row :=
  ⟨k.os.trans h.os, k.tape.trans h.tape, k.output.trans h.output, Nat.le_trans h.size k.size, fun i hi hne => (k.block i (Nat.lt_of_lt_of_le hi h.size) hne).trans (h.block i hi hne)⟩
theorem only_alloc {a w : World} {row : Option Nat} (h : a.grownBy w row) (o : Obj) : a.grownBy (w.alloc o) row :=
  ⟨h.os, h.tape, h.output, Nat.le_trans h.size (by simp), fun i hi hne => (Below.heap_alloc w o i (Nat.lt_of_lt_of_le hi h.size)).trans (h.block i hi hne)⟩
theorem only_setCell {a w : World} {g : Nat} (h : a.grownBy w (some g)) {p : Addr} (hp : p.block = g ∨ a.heap.size ≤ p.block) (u : Value) : a.grownBy (w.setCell p u) (some g) :=
  ⟨h.os, h.tape, h.output, by simpa [World.setCell] using h.size, fun i hi hne => (Below.heap_setCell w p u i (by
    rintro rfl
    rcases hp with hp | hp
    · exact hne (by rw [hp])
    · omega)).trans (h.block i hi hne)⟩
theorem only_of_none {a w : World} (h : a.grownBy w none) (row : Option Nat) : a.grownBy w row :=
  ⟨h.os, h.tape, h.output, h.size, fun i hi _ => h.block i hi (by simp)⟩
theorem below_of_only {a w : World} (h : a.grownBy w none) : Below a.heap.size a w := ⟨h.os, h.tape, h.output, h.size, fun i hi => h.block i hi (by simp)⟩
end Go.Proofs.YtghfigeepnbjaaaGreat
namespace Go.Proofs.YtghfigeepnbjaaaGreat
open Go.RowKit
section
variable {w : World} {g : Nat} {t : TypeId} {a b c d e f : Value}
theorem Blk.c1 (h : Blk w g t #[a]) : w.cell? ⟨g, 0, none⟩ = some a ∧ w.frozen? ⟨g, 0, none⟩ = false := ⟨h.cell 0, h.frozen 0⟩
theorem Blk.c2 (h : Blk w g t #[a, b]) : w.cell? ⟨g, 0, none⟩ = some a ∧ w.cell? ⟨g, 1, none⟩ = some b ∧ w.frozen? ⟨g, 0, none⟩ = false ∧ w.frozen? ⟨g, 1, none⟩ = false :=
  ⟨h.cell 0, h.cell 1, h.frozen 0, h.frozen 1⟩
theorem Blk.c3 (h : Blk w g t #[a, b, c]) : w.cell? ⟨g, 0, none⟩ = some a ∧ w.cell? ⟨g, 1, none⟩ = some b ∧ w.cell? ⟨g, 2, none⟩ = some c ∧
    w.frozen? ⟨g, 0, none⟩ = false ∧ w.frozen? ⟨g, 1, none⟩ = false ∧ w.frozen? ⟨g, 2, none⟩ = false :=
  ⟨h.cell 0, h.cell 1, h.cell 2, h.frozen 0, h.frozen 1, h.frozen 2⟩
theorem Blk.c4 (h : Blk w g t #[a, b, c, d]) : w.cell? ⟨g, 0, none⟩ = some a ∧ w.cell? ⟨g, 1, none⟩ = some b ∧ w.cell? ⟨g, 2, none⟩ = some c ∧ w.cell? ⟨g, 3, none⟩ = some d ∧
    w.frozen? ⟨g, 0, none⟩ = false ∧ w.frozen? ⟨g, 1, none⟩ = false ∧ w.frozen? ⟨g, 2, none⟩ = false ∧ w.frozen? ⟨g, 3, none⟩ = false :=
  ⟨h.cell 0, h.cell 1, h.cell 2, h.cell 3, h.frozen 0, h.frozen 1, h.frozen 2, h.frozen 3⟩
theorem Blk.c5 (h : Blk w g t #[a, b, c, d, e]) : w.cell? ⟨g, 0, none⟩ = some a ∧ w.cell? ⟨g, 1, none⟩ = some b ∧ w.cell? ⟨g, 2, none⟩ = some c ∧ w.cell? ⟨g, 3, none⟩ = some d ∧ w.cell? ⟨g, 4, none⟩ = some e ∧
    w.frozen? ⟨g, 0, none⟩ = false ∧ w.frozen? ⟨g, 1, none⟩ = false ∧ w.frozen? ⟨g, 2, none⟩ = false ∧ w.frozen? ⟨g, 3, none⟩ = false ∧ w.frozen? ⟨g, 4, none⟩ = false :=
  ⟨h.cell 0, h.cell 1, h.cell 2, h.cell 3, h.cell 4, h.frozen 0, h.frozen 1, h.frozen 2, h.frozen 3, h.frozen 4⟩
theorem Blk.c6 (h : Blk w g t #[a, b, c, d, e, f]) : w.cell? ⟨g, 0, none⟩ = some a ∧ w.cell? ⟨g, 1, none⟩ = some b ∧ w.cell? ⟨g, 2, none⟩ = some c ∧ w.cell? ⟨g, 3, none⟩ = some d ∧ w.cell? ⟨g, 4, none⟩ = some e ∧ w.cell? ⟨g, 5, none⟩ = some f ∧
    w.frozen? ⟨g, 0, none⟩ = false ∧ w.frozen? ⟨g, 1, none⟩ = false ∧ w.frozen? ⟨g, 2, none⟩ = false ∧ w.frozen? ⟨g, 3, none⟩ = false ∧ w.frozen? ⟨g, 4, none⟩ = false ∧ w.frozen? ⟨g, 5, none⟩ = false :=
  ⟨h.cell 0, h.cell 1, h.cell 2, h.cell 3, h.cell 4, h.cell 5, h.frozen 0, h.frozen 1, h.frozen 2, h.frozen 3, h.frozen 4, h.frozen 5⟩
end
end Go.Proofs.YtghfigeepnbjaaaGreat
namespace Go.Proofs.YtghfigeepnbjaaaGreat
open Go.RowKit
/-- Of what there was, the blocks of T alone may have turned. -/
structure Fr (T : Nat → Prop) (w w' : World) : Prop where
  os : w'.os = w.os
  tape : w'.tape = w.tape
  output : w'.output = w.output
  size : w.heap.size ≤ w'.heap.size
  block : ∀ k, k < w.heap.size → ¬ T k → w'.heap[k]? = w.heap[k]?
section
variable {T : Nat → Prop} {a w w' : World}
theorem Fr.refl (T : Nat → Prop) (w : World) : Fr T w w := ⟨rfl, rfl, rfl, Nat.le_refl _, fun _ _ _ => rfl⟩
theorem Fr.trans (h : Fr T a w) (k : Fr T w w') : Fr T a w' :=
  ⟨k.os.trans h.os, k.tape.trans h.tape, k.output.trans h.output, Nat.le_trans h.size k.size, fun i hi hn => (k.block i (Nat.lt_of_lt_of_le hi h.size) hn).trans (h.block i hi hn)⟩
theorem Fr.mono {U : Nat → Prop} (h : Fr T a w) (hu : ∀ k, k < a.heap.size → T k → U k) : Fr U a w := ⟨h.os, h.tape, h.output, h.size, fun i hi hn => h.block i hi fun ht => hn (hu i hi ht)⟩
theorem Fr.drew (h : Fr T a w) : Fr T a w.drew := ⟨h.os, h.tape, h.output, h.size, h.block⟩
theorem Fr.alloc (h : Fr T a w) (o : Obj) : Fr T a (w.alloc o) :=
  ⟨h.os, h.tape, h.output, Nat.le_trans h.size (by simp), fun i hi hn => (Below.heap_alloc w o i (Nat.lt_of_lt_of_le hi h.size)).trans (h.block i hi hn)⟩
theorem Fr.setCell (h : Fr T a w) {p : Addr} (hp : a.heap.size ≤ p.block ∨ T p.block) (u : Value) : Fr T a (w.setCell p u) :=
  ⟨h.os, h.tape, h.output, by simpa [World.setCell] using h.size, fun i hi hn => (Below.heap_setCell w p u i (by
    rintro rfl
    rcases hp with hp | hp
    · omega
    · exact hn hp)).trans (h.block i hi hn)⟩
theorem Fr.grown {row : Option Nat} (h : Fr T a w) (hg : w.grownBy w' row) (hr : ∀ k, row = some k → a.heap.size ≤ k ∨ T k) : Fr T a w' :=
  ⟨hg.os.trans h.os, hg.tape.trans h.tape, hg.output.trans h.output, Nat.le_trans h.size hg.size, fun i hi hn => (hg.block i (Nat.lt_of_lt_of_le hi h.size) fun e => by
    rcases hr i e.symm with h1 | h1
    · omega
    · exact hn h1).trans (h.block i hi hn)⟩
theorem Fr.grown0 (h : Fr T a w) (hg : w.grownBy w' none) : Fr T a w' := h.grown hg (fun k hk => by cases hk)
theorem Fr.grown1 {g : Nat} (h : Fr T a w) (hg : w.grownBy w' (some g)) (hr : a.heap.size ≤ g ∨ T g) : Fr T a w' := h.grown hg (fun k hk => by cases hk; exact hr)
theorem Blk.fr {g : Nat} {t : TypeId} {cs : Array Value} (h : Blk w g t cs) (hf : Fr T w w') (hn : ¬ T g) : Blk w' g t cs := (hf.block g h.lt hn).trans h
theorem Fr.cell {p : Addr} (h : Fr T w w') (hp : p.block < w.heap.size) (hn : ¬ T p.block) : w'.cell? p = w.cell? p := World.cell?_of_block (w := w) (h.block p.block hp hn)
end
end Go.Proofs.YtghfigeepnbjaaaGreat
namespace Go.Proofs.YtghfigeepnbjaaaGreat

/-- A value, with the blocks named by small numbers. -/
inductive SV where
  | junk
  | v (x : Value)
  | kb (b : Bool)
  | p (i off : Nat)
  | s (i off len cap : Nat)
  | rp (i sz r c : Nat)
  | rs (i n cap : Nat)
  | os (i n : Nat)
  | ov (i sz lo n : Nat)
  | m (i : Nat)
  | fn (f : Fn) (caps : List (Nat × Nat))
  | agg (cs : List SV)
  | tup (vs : List SV)

abbrev Loc := Nat → Option Addr
def atB (ρ : Loc) (i off : Nat) : Option Addr := (ρ i).map fun a => ⟨a.block, off, none⟩
def atR (ρ : Loc) (i off : Nat) : Option Addr := (ρ i).map fun a => ⟨a.block, a.off + off, none⟩
def atB' (ρ : Loc) (i : Nat) : Option Addr := (ρ i).map fun a => ⟨a.block, a.off, none⟩
def capB (ρ : Loc) (i : Nat) : Nat := ((ρ i).bind (·.spot)).getD 0
def ovX (x : Option Addr) (lo sz : Nat) : Option Addr := if (x.bind (·.spot)).getD 0 = lo then x.map fun a => ⟨a.block, a.off, none⟩ else x.map fun a => ⟨a.block, a.off + lo * sz, none⟩
def mapV (ρ : Loc) (i : Nat) : Value := .map ((ρ i).map (·.block))
def capV (ρ : Loc) (q : Nat × Nat) : Value := .pointer (atB ρ q.1 q.2)

mutual
def SV.den (ρ : Loc) : SV → Value
  | .junk => undef
  | .v x => x
  | .kb b => .bool b
  | .p i off => .pointer (atB ρ i off)
  | .s i off len cap => .slice (atB ρ i off) len cap
  | .rp i sz r c => .pointer (atR ρ i (r * sz + c))
  | .rs i n cap => .slice (ρ i) n cap
  | .os i n => .slice (atB' ρ i) n (capB ρ i)
  | .ov i sz lo n => .slice (ovX (ρ i) lo sz) n (capB ρ i - lo)
  | .m i => mapV ρ i
  | .fn f caps => .func f #[] (caps.map (capV ρ)).toArray
  | .agg cs => .agg (SV.denL ρ cs).toArray
  | .tup vs => .tuple (SV.denL ρ vs).toArray
def SV.denL (ρ : Loc) : List SV → List Value
  | [] => []
  | c :: cs => c.den ρ :: SV.denL ρ cs
end
mutual
/-- Every block that is named is below this number. -/
def SV.bdd (n : Nat) : SV → Bool
  | .junk => true
  | .v _ => true
  | .kb _ => true
  | .p i _ => Nat.blt i n
  | .s i _ _ _ => Nat.blt i n
  | .rp i _ _ _ => Nat.blt i n
  | .rs i _ _ => Nat.blt i n
  | .os i _ => Nat.blt i n
  | .ov i _ _ _ => Nat.blt i n
  | .m i => Nat.blt i n
  | .fn _ caps => caps.all fun q => Nat.blt q.1 n
  | .agg cs => SV.bddL n cs
  | .tup vs => SV.bddL n vs
def SV.bddL (n : Nat) : List SV → Bool
  | [] => true
  | c :: cs => c.bdd n && SV.bddL n cs
end
theorem denL_eq (ρ : Loc) : ∀ cs, SV.denL ρ cs = cs.map (SV.den ρ)
  | [] => by simp [SV.denL]
  | c :: cs => by simp [SV.denL, denL_eq ρ cs]
/-- Two valuations that are the same below a number. -/
def Same (n : Nat) (ρ ρ' : Loc) : Prop := ∀ i, i < n → ρ' i = ρ i
theorem Same.refl (n : Nat) (ρ : Loc) : Same n ρ ρ := fun _ _ => rfl
theorem Same.trans {n m : Nat} {ρ ρ' ρ'' : Loc} (h : Same n ρ ρ') (k : Same m ρ' ρ'') (hm : n ≤ m) : Same n ρ ρ'' := fun i hi => (k i (Nat.lt_of_lt_of_le hi hm)).trans (h i hi)
theorem Same.mono {n m : Nat} {ρ ρ' : Loc} (h : Same m ρ ρ') (hm : n ≤ m) : Same n ρ ρ' := fun i hi => h i (Nat.lt_of_lt_of_le hi hm)
theorem Same.symm {n : Nat} {ρ ρ' : Loc} (h : Same n ρ ρ') : Same n ρ' ρ := fun i hi => (h i hi).symm
mutual
theorem den_same {n : Nat} {ρ ρ' : Loc} (h : Same n ρ ρ') : ∀ s : SV, s.bdd n = true → s.den ρ' = s.den ρ
  | .junk, _ => rfl
  | .v _, _ => rfl
  | .kb _, _ => rfl
  | .p i off, hb => by simp only [SV.bdd, Nat.blt_eq] at hb; simp only [SV.den, atB, h i hb]
  | .s i off len cap, hb => by simp only [SV.bdd, Nat.blt_eq] at hb; simp only [SV.den, atB, h i hb]
  | .rp i sz r c, hb => by simp only [SV.bdd, Nat.blt_eq] at hb; simp only [SV.den, atR, h i hb]
  | .rs i n cap, hb => by simp only [SV.bdd, Nat.blt_eq] at hb; simp only [SV.den, h i hb]
  | .os i n, hb => by simp only [SV.bdd, Nat.blt_eq] at hb; simp only [SV.den, atB', capB, h i hb]
  | .ov i sz lo n, hb => by simp only [SV.bdd, Nat.blt_eq] at hb; simp only [SV.den, capB, h i hb]
  | .m i, hb => by simp only [SV.bdd, Nat.blt_eq] at hb; simp only [SV.den, mapV, h i hb]
  | .fn f caps, hb => by
    simp only [SV.bdd, List.all_eq_true] at hb
    simp only [SV.den]
    congr 2
    refine List.map_congr_left fun q hq => ?_
    have hq := hb q hq
    simp only [Nat.blt_eq] at hq
    simp only [capV, atB, h _ hq]
  | .agg cs, hb => by simp only [SV.bdd] at hb; simp only [SV.den, denL_same h cs hb]
  | .tup vs, hb => by simp only [SV.bdd] at hb; simp only [SV.den, denL_same h vs hb]
theorem denL_same {n : Nat} {ρ ρ' : Loc} (h : Same n ρ ρ') : ∀ cs : List SV, SV.bddL n cs = true → SV.denL ρ' cs = SV.denL ρ cs
  | [], _ => rfl
  | c :: cs, hb => by simp only [SV.bddL, Bool.and_eq_true] at hb; simp only [SV.denL, den_same h c hb.1, denL_same h cs hb.2]
end

/-- Two cells of one kind. -/
def sameKind : Value → Value → Bool
  | .int k _, .int k' _ => k == k'
  | .bool _, .bool _ => true
  | .string _, .string _ => true
  | _, _ => false
def sameKinds : List Value → List Value → Bool
  | [], [] => true
  | z :: zs, x :: xs => sameKind z x && sameKinds zs xs
  | _, _ => false
/-- A key of a map: a cell of a kind, or cells of kinds. -/
def keyOK (ag : Bool) (zk : List Value) (v : Value) : Bool := match ag, v with
  | true, .agg ⟨xs⟩ => sameKinds zk xs
  | true, _ => false
  | false, v => sameKinds zk [v]
/-- What is known of a block: nothing; all its cells; that it holds n rows of sz cells from a place on; a slice of one's own; a map's entries, in order; anything about some blocks; a block with a map in it that nothing else leads to; how far a loop over a map (j) has come, and what it has handed out. -/
inductive HE where
  | none
  | blk (ty : TypeId) (cs : List SV)
  | row (sz n : Nat) (f : Nat → Nat → Value)
  | own (ty : TypeId) (sz n : Nat) (f : Nat → Nat → Value)
  | mp (ag : Bool) (zk : List Value) (es : List (Value × Value)) (st : Option (Array MapEntry × Nat))
  | res (wr : Bool) (Z : Nat → Prop) (Q : World → Prop)
  | obj1 (ty : TypeId) (pre post : List Value) (ag : Bool) (zk : List Value) (es : List (Value × Value))
  | iter (j : Nat) (ents : Array MapEntry) (clock : Nat) (vis : List (Value × Value))
/-- The cells of n rows, one after the other. -/
def cellsF (sz : Nat) (f : Nat → Nat → Value) : Nat → List Value
  | 0 => []
  | n + 1 => cellsF sz f n ++ (List.range sz).map (f n)
/-- A map's object: its entries, in order. -/
structure MapIs (w : World) (r : Nat) (ag : Bool) (zk : List Value) (es : List (Value × Value)) (st : Option (Array MapEntry × Nat)) : Prop where
  out : ∃ (ents : Array MapEntry) (clock : Nat), w.heap[r]? = some (.map ents clock) ∧ ents.toList.map (fun e => (e.key, e.val)) = es ∧ (∀ e ∈ ents.toList, e.born < clock) ∧ (ents.toList.map (·.born)).Nodup ∧ ∀ x, st = some x → x = (ents, clock)
  keys : ∀ p ∈ es, keyOK ag zk p.1 = true
  nodup : (es.map (·.1)).Nodup
/-- An iterator's object: over which map, and what it has handed out. -/
structure IterIs (w : World) (r mb : Nat) (ents : Array MapEntry) (clock : Nat) (vis : List (Value × Value)) : Prop where
  out : ∃ (since c0 : Nat) (seen : Array Nat) (ves : List MapEntry), w.heap[r]? = some (.mapIter (some mb) since seen c0) ∧ ((∀ e ∈ ents.toList, e.born < since) ∧ since ≤ c0 ∧ since ≤ clock) ∧ (seen.toList = ves.map (·.born) ∧ ves.map (fun e => (e.key, e.val)) = vis) ∧
    ((∀ e ∈ ves, e ∈ ents.toList) ∧ (ves.map (·.born)).Nodup) ∧ (ves ≠ [] → c0 = clock)
theorem IterIs.same {w w' : World} {r mb : Nat} {ents : Array MapEntry} {clock : Nat} {vis : List (Value × Value)} (h : IterIs w r mb ents clock vis) (hg : w'.heap[r]? = w.heap[r]?) : IterIs w' r mb ents clock vis := by
  obtain ⟨since, c0, seen, ves, h1, h2⟩ := h
  exact ⟨since, c0, seen, ves, hg.trans h1, h2⟩
theorem IterIs.lt {w : World} {r mb : Nat} {ents : Array MapEntry} {clock : Nat} {vis : List (Value × Value)} (h : IterIs w r mb ents clock vis) : r < w.heap.size := by
  obtain ⟨since, c0, seen, ves, h1, _⟩ := h
  exact (Array.getElem?_eq_some_iff.1 h1).1
def HE.ok (ρ : Loc) (w : World) (i : Nat) : HE → Prop
  | .none => True
  | .blk ty cs => ∃ b, ρ i = some ⟨b, 0, Option.none⟩ ∧ Blk w b ty (SV.denL ρ cs).toArray
  | .row sz n f => 0 < n → ∃ b off, ρ i = some ⟨b, off, Option.none⟩ ∧ b < w.heap.size ∧ ∀ r c, r < n → c < sz → w.cell? ⟨b, off + r * sz + c, Option.none⟩ = some (f r c)
  | .own ty sz n f => w.ownsRow 0 ty sz ((SV.os i n).den ρ) n (cellsF sz f n)
  | .mp ag zk es st => ∃ r, ρ i = some ⟨r, 0, Option.none⟩ ∧ MapIs w r ag zk es st
  | .obj1 ty pre post ag zk es => ∃ sb mb, ρ i = some ⟨sb, mb, Option.none⟩ ∧ sb ≠ mb ∧ Blk w sb ty (pre ++ [Value.map (some mb)] ++ post).toArray ∧ MapIs w mb ag zk es Option.none
  | .iter j ents clock vis => ∃ r mb, ρ i = some ⟨r, 0, Option.none⟩ ∧ ρ j = some ⟨mb, 0, Option.none⟩ ∧ IterIs w r mb ents clock vis
  | .res _ Z Q => Q w ∧ (∀ b, Z b → b < w.heap.size) ∧ ∀ w1 w2 : World, (∀ b, Z b → w2.heap[b]? = w1.heap[b]?) → Q w1 → Q w2
def HE.live : HE → Prop
  | .none => False
  | .blk _ _ => True
  | .row _ n _ => 0 < n
  | .own _ _ _ _ => True
  | .mp _ _ _ _ => True
  | .obj1 _ _ _ _ _ _ => True
  | .iter _ _ _ _ => True
  | .res _ _ _ => True
/-- One that may be written. -/
def HE.wr : HE → Prop
  | .none => False
  | .blk _ _ => True
  | .row _ _ _ => False
  | .own _ _ _ _ => True
  | .mp _ _ _ _ => True
  | .obj1 _ _ _ _ _ _ => True
  | .iter _ _ _ _ => True
  | .res w _ _ => w = true
/-- The blocks that it speaks of. -/
def HE.foot (ρ : Loc) (i : Nat) : HE → Nat → Prop
  | .none, _ => False
  | .res _ Z _, b => Z b
  | .blk _ _, b => ∃ a, ρ i = some a ∧ a.block = b
  | .row _ _ _, b => ∃ a, ρ i = some a ∧ a.block = b
  | .own _ _ _ _, b => ∃ a, ρ i = some a ∧ a.block = b
  | .mp _ _ _ _, b => ∃ a, ρ i = some a ∧ a.block = b
  | .obj1 _ _ _ _ _ _, b => ∃ a, ρ i = some a ∧ (a.block = b ∨ a.off = b)
  | .iter _ _ _ _, b => ∃ a, ρ i = some a ∧ a.block = b
/-- One that is told by its name. -/
def HE.nam : HE → Prop
  | .none => False
  | .res _ _ _ => False
  | .obj1 _ _ _ _ _ _ => False
  | _ => True
theorem HE.foot_nam {ρ : Loc} {i : Nat} {e : HE} (h : e.nam) {b : Nat} : e.foot ρ i b ↔ ∃ a, ρ i = some a ∧ a.block = b := by cases e <;> first | exact h.elim | exact Iff.rfl
theorem HE.foot_congr {ρ ρ' : Loc} {i : Nat} (h : ρ' i = ρ i) (e : HE) {b : Nat} : e.foot ρ' i b ↔ e.foot ρ i b := by
  cases e <;> simp only [HE.foot, h]
theorem HE.wr_live {e : HE} (h : e.wr) : e.live := by cases e <;> first | exact h.elim | trivial
def HE.bdd (n : Nat) : HE → Bool
  | .none => true
  | .blk _ cs => SV.bddL n cs
  | .row _ _ _ => true
  | .own _ _ _ _ => true
  | .mp _ _ _ _ => true
  | .obj1 _ _ _ _ _ _ => true
  | .iter j _ _ _ => Nat.blt j n
  | .res _ _ _ => true

/-- The memory is as it is said to be; since the world w0 only the blocks of U were written, of those that were. -/
structure HOk (w0 : World) (U : Nat → Prop) (ρ : Loc) (H : List HE) (w : World) : Prop where
  ent : ∀ (i : Nat) (e : HE), H[i]? = some e → e.ok ρ w i
  own : ∀ (i : Nat) (e : HE), H[i]? = some e → e.wr → ∀ b : Nat, e.foot ρ i b → w0.heap.size ≤ b ∨ U b
  dis : ∀ (i j : Nat) (d e : HE), i ≠ j → H[i]? = some d → d.wr → H[j]? = some e → e.live → ∀ b : Nat, d.foot ρ i b → ¬ e.foot ρ j b
  fr : Fr U w0 w
/-- The same, whatever the blocks are called that are not named. -/
def HRel (w0 : World) (U : Nat → Prop) (ρ : Loc) (H : List HE) (w : World) : Prop := ∀ ρ', Same H.length ρ ρ' → HOk w0 U ρ' H w
def TmOk (ρ : Loc) (tm : List SV) (ts : Array Value) : Prop := ts.size = tm.length ∧ ∀ (i : Nat) (sv : SV), tm[i]? = some sv → sv ≠ SV.junk → ts[i]? = some (sv.den ρ)
def Rel (w0 : World) (U : Nat → Prop) (ρ : Loc) (tm : List SV) (H : List HE) (a : Act) (w : World) : Prop :=
  a.defers = [] ∧ ∀ ρ', Same H.length ρ ρ' → TmOk ρ' tm a.tmps ∧ HOk w0 U ρ' H w

theorem Rel.h {w0 : World} {U : Nat → Prop} {ρ : Loc} {tm : List SV} {H : List HE} {a : Act} {w : World} (h : Rel w0 U ρ tm H a w) : HRel w0 U ρ H w := fun ρ' hs => (h.2 ρ' hs).2

theorem MapIs.same {w w' : World} {r : Nat} {ag : Bool} {zk : List Value} {es : List (Value × Value)} {st : Option (Array MapEntry × Nat)} (h : MapIs w r ag zk es st) (hg : w'.heap[r]? = w.heap[r]?) : MapIs w' r ag zk es st := by
  obtain ⟨⟨ents, clock, h1, h2⟩, h3, h4⟩ := h
  exact ⟨⟨ents, clock, hg.trans h1, h2⟩, h3, h4⟩
theorem MapIs.lt {w : World} {r : Nat} {ag : Bool} {zk : List Value} {es : List (Value × Value)} {st : Option (Array MapEntry × Nat)} (h : MapIs w r ag zk es st) : r < w.heap.size := by
  obtain ⟨⟨ents, clock, h1, _⟩, _⟩ := h
  exact (Array.getElem?_eq_some_iff.1 h1).1
theorem HE.ok_lt {ρ : Loc} {w : World} {i : Nat} {e : HE} (h : e.ok ρ w i) (hl : e.live) {b : Nat} (hb : e.foot ρ i b) : b < w.heap.size := by
  cases e with
  | none => exact hl.elim
  | blk ty cs =>
    obtain ⟨b', h1, hk⟩ := h
    obtain ⟨a, ha, rfl⟩ := hb
    rw [h1] at ha; cases ha
    exact hk.lt
  | row sz n f =>
    obtain ⟨b', off, h1, hlt, _⟩ := h hl
    obtain ⟨a, ha, rfl⟩ := hb
    rw [h1] at ha; cases ha
    exact hlt
  | own ty sz n f =>
    obtain ⟨a, ha, rfl⟩ := hb
    obtain ⟨_, ⟨hv, _⟩ | ⟨g, cap, cur, hv, _, hk, _⟩⟩ := h
    · simp only [SV.den, atB', ha, Option.map_some] at hv; cases hv
    · simp only [SV.den, atB', ha, Option.map_some] at hv
      injection hv with hv _ _
      injection hv with hv
      injection hv with hv
      rw [hv]
      exact Blk.lt (t := ty) (cs := cur) hk
  | mp ag zk es st =>
    obtain ⟨r, h1, hk⟩ := h
    obtain ⟨a, ha, rfl⟩ := hb
    rw [h1] at ha; cases ha
    exact hk.lt
  | obj1 ty pre post ag zk es =>
    obtain ⟨sb, mb, h1, _, h2, h3⟩ := h
    obtain ⟨a, ha, hab⟩ := hb
    rw [h1] at ha; cases ha
    rcases hab with rfl | rfl
    · exact h2.lt
    · exact h3.lt
  | iter j ents clock vis =>
    obtain ⟨r, mb, h1, _, hk⟩ := h
    obtain ⟨a, ha, rfl⟩ := hb
    rw [h1] at ha; cases ha
    exact hk.lt
  | res wr Z Q => exact h.2.1 b hb
theorem HE.ok_grown {ρ : Loc} {w w' : World} {i : Nat} {e : HE} {row : Option Nat} (h : e.ok ρ w i) (hg : w.grownBy w' row) (hr : e.live → ∀ b, e.foot ρ i b → some b ≠ row) : e.ok ρ w' i := by
  cases e with
  | none => trivial
  | blk ty cs =>
    obtain ⟨b, hb, hk⟩ := h
    exact ⟨b, hb, hk.grown hg (hr trivial _ ⟨_, hb, rfl⟩)⟩
  | row sz n f =>
    intro hn
    obtain ⟨b, off, hb, hlt, hc⟩ := h hn
    refine ⟨b, off, hb, Nat.lt_of_lt_of_le hlt hg.size, fun r c hr' hc' => ?_⟩
    rw [← hc r c hr' hc']
    exact World.cell?_of_block (w := w) (hg.block b hlt (hr hn _ ⟨_, hb, rfl⟩))
  | own ty sz n f =>
    obtain ⟨hl, h⟩ := h
    refine ⟨hl, ?_⟩
    rcases h with h | ⟨g, cap, cur, hv, hb, hk, hc⟩
    · exact .inl h
    · refine .inr ⟨g, cap, cur, hv, hb, ?_, hc⟩
      have hlt : g < w.heap.size := Blk.lt (t := ty) (cs := cur) hk
      rw [hg.block g hlt ?_]
      · exact hk
      · simp only [SV.den, atB'] at hv
        injection hv with hv _ _
        obtain ⟨a, ha, hae⟩ := Option.map_eq_some_iff.1 hv
        have := hr trivial a.block ⟨a, ha, rfl⟩
        injection hae with hae
        rwa [hae] at this
  | mp ag zk es st =>
    obtain ⟨r, h1, hk⟩ := h
    exact ⟨r, h1, hk.same (hg.block r hk.lt (hr trivial _ ⟨_, h1, rfl⟩))⟩
  | obj1 ty pre post ag zk es =>
    obtain ⟨sb, mb, h1, h0, h2, h3⟩ := h
    exact ⟨sb, mb, h1, h0, h2.grown hg (hr trivial _ ⟨_, h1, .inl rfl⟩), h3.same (hg.block mb h3.lt (hr trivial _ ⟨_, h1, .inr rfl⟩))⟩
  | iter j ents clock vis =>
    obtain ⟨r, mb, h1, h0, hk⟩ := h
    exact ⟨r, mb, h1, h0, hk.same (hg.block r hk.lt (hr trivial _ ⟨_, h1, rfl⟩))⟩
  | res wr Z Q =>
    obtain ⟨h1, h2, h3⟩ := h
    exact ⟨h3 w w' (fun b hb => hg.block b (h2 b hb) (hr trivial b hb)) h1, fun b hb => Nat.lt_of_lt_of_le (h2 b hb) hg.size, h3⟩
theorem HE.ok_drew {ρ : Loc} {w : World} {i : Nat} {e : HE} (h : e.ok ρ w i) : e.ok ρ w.drew i := by
  cases e with
  | none => trivial
  | blk ty cs => exact h
  | row sz n f => exact h
  | own ty sz n f => exact h
  | mp ag zk es st => obtain ⟨r, h1, h2⟩ := h; exact ⟨r, h1, h2.same rfl⟩
  | obj1 ty pre post ag zk es => obtain ⟨sb, mb, h1, h0, h2, h3⟩ := h; exact ⟨sb, mb, h1, h0, h2, h3.same rfl⟩
  | iter j ents clock vis => obtain ⟨r, mb, h1, h0, h2⟩ := h; exact ⟨r, mb, h1, h0, h2.same rfl⟩
  | res wr Z Q => exact ⟨h.2.2 w w.drew (fun _ _ => rfl) h.1, h.2.1, h.2.2⟩
theorem HOk.grown0 {w0 : World} {U : Nat → Prop} {ρ : Loc} {H : List HE} {w w' : World} (h : HOk w0 U ρ H w) (hg : w.grownBy w' none) : HOk w0 U ρ H w' :=
  ⟨fun i e he => HE.ok_grown (h.ent i e he) hg (fun _ _ _ => by simp), h.own, h.dis, h.fr.grown0 hg⟩
theorem HRel.grown0 {w0 : World} {U : Nat → Prop} {ρ : Loc} {H : List HE} {w w' : World} (h : HRel w0 U ρ H w) (hg : w.grownBy w' none) : HRel w0 U ρ H w' := fun ρ' hs => (h ρ' hs).grown0 hg
theorem HOk.drew {w0 : World} {U : Nat → Prop} {ρ : Loc} {H : List HE} {w : World} (h : HOk w0 U ρ H w) : HOk w0 U ρ H w.drew := ⟨fun i e he => HE.ok_drew (h.ent i e he), h.own, h.dis, h.fr.drew⟩

/-- The block of an address that is known. -/
theorem HOk.blk {w0 : World} {U : Nat → Prop} {ρ : Loc} {H : List HE} {w : World} (h : HOk w0 U ρ H w) {i : Nat} {ty : TypeId} {cs : List SV} (hi : H[i]? = some (.blk ty cs)) :
    ∃ b, ρ i = some ⟨b, 0, none⟩ ∧ Blk w b ty (SV.denL ρ cs).toArray := h.ent i _ hi

def upd (ρ : Loc) (n : Nat) (a : Addr) : Loc := fun k => if k = n then some a else ρ k
theorem upd_same (ρ : Loc) (n : Nat) (a : Addr) : Same n ρ (upd ρ n a) := fun i hi => by simp [upd, Nat.ne_of_lt hi]

/-- A new block. -/
theorem HOk.alloc {w0 : World} {U : Nat → Prop} {ρ : Loc} {H : List HE} {w : World} (h : HOk w0 U ρ H w) (ty : TypeId) (cs : List SV) (hρ : ρ H.length = some ⟨w.heap.size, 0, none⟩) :
    HOk w0 U ρ (H ++ [.blk ty cs]) (w.alloc (.cells (SV.denL ρ cs).toArray ty)) := by
  have hlen : ∀ i e, H[i]? = some e → i < H.length := fun i e hi => (List.getElem?_eq_some_iff.1 hi).1
  have key : ∀ i e, (H ++ [HE.blk ty cs])[i]? = some e → (H[i]? = some e) ∨ (i = H.length ∧ e = .blk ty cs) := fun i e hi => by
    rw [List.getElem?_append] at hi
    split at hi
    · exact .inl hi
    · rename_i hlt
      right
      by_cases h0 : i - H.length = 0
      · simp only [h0, List.getElem?_cons_zero, Option.some.injEq] at hi
        exact ⟨by omega, hi.symm⟩
      · obtain ⟨k, hk⟩ : ∃ k, i - H.length = k + 1 := ⟨i - H.length - 1, by omega⟩
        rw [hk] at hi
        simp at hi
  have le : w0.heap.size ≤ w.heap.size := h.fr.size
  have nf : ∀ b, (HE.blk ty cs).foot ρ H.length b → b = w.heap.size := fun b ⟨a, ha, hb⟩ => by rw [hρ] at ha; cases ha; exact hb.symm
  refine ⟨fun i e hi => ?_, fun i e hi hw b hb => ?_, fun i j d e hij hi hd hj hl b ha hb => ?_, h.fr.alloc _⟩
  · rcases key i e hi with hi | ⟨rfl, rfl⟩
    · exact HE.ok_grown (h.ent i e hi) (only_alloc (only_refl _ none) _) (fun _ _ _ => by simp)
    · exact ⟨_, hρ, Blk.new _ _ _⟩
  · rcases key i _ hi with hi | ⟨rfl, rfl⟩
    · exact h.own i _ hi hw b hb
    · rw [nf b hb]; exact .inl le
  · rcases key i _ hi with hi | ⟨rfl, rfl⟩ <;> rcases key j _ hj with hj | ⟨rfl, rfl⟩
    · exact h.dis i j _ _ hij hi hd hj hl b ha hb
    · have := HE.ok_lt (h.ent i _ hi) (HE.wr_live hd) ha
      rw [nf b hb] at this
      exact absurd this (Nat.lt_irrefl _)
    · have := HE.ok_lt (h.ent j _ hj) hl hb
      rw [nf b ha] at this
      exact absurd this (Nat.lt_irrefl _)
    · exact absurd rfl hij

theorem denL_length (ρ : Loc) (cs : List SV) : (SV.denL ρ cs).length = cs.length := by rw [denL_eq]; simp
theorem denL_get (ρ : Loc) (cs : List SV) (i : Nat) : (SV.denL ρ cs)[i]? = (cs[i]?).map (SV.den ρ) := by rw [denL_eq]; simp

/-- A block that is written: what it holds is another thing. -/
theorem HOk.write {w0 : World} {U : Nat → Prop} {ρ : Loc} {H : List HE} {w w' : World} (h : HOk w0 U ρ H w) {i : Nat} {d d' : HE} (hi : H[i]? = some d) (hd : d.wr) (hn : d.nam) (hn' : d'.nam) {a : Addr} (hb : ρ i = some a)
    (hw : d'.ok ρ w' i) (hg : w.grownBy w' (some a.block)) : HOk w0 U ρ (H.set i d') w' := by
  have key : ∀ j e, (H.set i d')[j]? = some e → (j ≠ i ∧ H[j]? = some e) ∨ (j = i ∧ e = d') := fun j e hj => by
    rw [List.getElem?_set] at hj
    split at hj
    · rename_i hij; subst hij
      split at hj
      · exact .inr ⟨rfl, by simpa using hj.symm⟩
      · cases hj
    · rename_i hij; exact .inl ⟨fun h => hij h.symm, hj⟩
  have fd : ∀ b, d'.foot ρ i b → d.foot ρ i b := fun b h => (HE.foot_nam hn).2 ((HE.foot_nam hn').1 h)
  have hda : d.foot ρ i a.block := (HE.foot_nam hn).2 ⟨a, hb, rfl⟩
  refine ⟨fun j e hj => ?_, fun j e hj he b hb' => ?_, fun j k d1 e1 hjk hj he1 hk hl b ha hb' => ?_, ?_⟩
  · rcases key j e hj with ⟨hne, hj'⟩ | ⟨rfl, rfl⟩
    · refine HE.ok_grown (h.ent j e hj') hg (fun hl b hb' => ?_)
      have := h.dis i j d e (Ne.symm hne) hi hd hj' hl a.block hda
      intro hc
      cases hc
      exact this hb'
    · exact hw
  · rcases key j _ hj with ⟨hne, hj'⟩ | ⟨hji, hde⟩
    · exact h.own j _ hj' he b hb'
    · subst hji; subst hde
      exact h.own j _ hi hd b (fd b hb')
  · rcases key j _ hj with ⟨hne, hj'⟩ | ⟨hji, hde⟩ <;> rcases key k _ hk with ⟨hne', hk'⟩ | ⟨hki, hee⟩
    · exact h.dis j k _ _ hjk hj' he1 hk' hl b ha hb'
    · subst hki; subst hee
      exact h.dis j k _ _ hjk hj' he1 hi (HE.wr_live hd) b ha (fd b hb')
    · subst hji; subst hde
      exact h.dis j k _ _ hjk hi hd hk' hl b (fd b ha) hb'
    · exact absurd (hji.trans hki.symm) hjk
  · exact h.fr.grown1 hg (h.own i _ hi hd _ hda)
end Go.Proofs.YtghfigeepnbjaaaGreat
namespace Go.Proofs.YtghfigeepnbjaaaGreat

inductive TK where
  | int (k : IntKind)
  | str
  | bool
  | struct (fs : List (Nat × TypeId))
  | arr (n : Nat) (e : TypeId)
  | slice (e : TypeId)
  | ptr (e : TypeId)
  | map (k e : TypeId)
  | other
/-- A type: its kind, its cells, those of its zero value, whether it is compared cell by cell. -/
structure TI where
  kind : TK
  size : Nat
  bytes : Nat
  zero : List Value
  eqs : Bool
  keyT : Bool
/-- May it be a map's key? -/
def TI.isKey (ti : TI) : Bool := match ti.kind, ti.zero with
  | .str, [.string _] => true
  | .int k, [.int k' _] => k == k'
  | .bool, [.bool _] => true
  | .struct _, _ => ti.keyT
  | _, _ => false
def TI.agg (ti : TI) : Bool := match ti.kind with | .struct _ => true | .arr _ _ => true | _ => false
def TI.zval (ti : TI) : Value := match ti.agg with
  | true => .agg ti.zero.toArray
  | false => ti.zero.headD undef
structure Tab where
  ty : TypeId → Option TI
  fn : FuncId → Bool

structure Need (p q : Prop) : Prop where
  h : p
  k : q
/-- A region that draws its order, and may be said to read alone: by that, or as one that draws. -/
inductive QuiD (p q r : Prop) : Prop where
  | quiet (h : p) (k : q)
  | draw (d : r)
structure Br (b : Bool) (t f : Prop) : Prop where
  ht : b = true → t
  hf : b = false → f
inductive Ar (k : IntKind) (n : Int) (K : SV → Prop) : Prop where
  | plain (h : k.wrap n = n) (q : K (.v (.int k n)))
  | wrapped (q : K (.v (.int k (k.wrap n))))

def getS : List SV → Nat → SV
  | [], _ => .junk
  | x :: _, 0 => x
  | _ :: xs, n + 1 => getS xs n
def setK : List SV → Nat → SV → (List SV → Prop) → Prop
  | [], _, _, K => K []
  | _ :: xs, 0, y, K => K (y :: xs)
  | x :: xs, n + 1, y, K => setK xs n y fun ys => K (x :: ys)
def putK (dst : Option Tmp) (tm : List SV) (y : SV) (K : List SV → Prop) : Prop := match dst with | none => K tm | some d => setK tm d y K
def getH : List HE → Nat → HE
  | [], _ => .none
  | x :: _, 0 => x
  | _ :: xs, n + 1 => getH xs n
def setHK : List HE → Nat → HE → (List HE → Prop) → Prop
  | [], _, _, K => K []
  | _ :: xs, 0, y, K => K (y :: xs)
  | x :: xs, n + 1, y, K => setHK xs n y fun ys => K (x :: ys)
/-- A number, written out. -/
def natL : List Nat → Nat → (Nat → Prop) → Prop
  | [], n, K => K n
  | k :: r, n, K => match Nat.beq n k with
    | true => K k
    | false => natL r n K
def lits : List Nat := [0, 1, 2, 3, 4, 5, 6, 7, 8, 9, 10, 11, 12, 13, 14, 15, 16, 17, 18, 19, 20, 21, 22, 23, 24, 25, 26, 27, 28, 29, 30, 31, 32, 33, 34, 35, 36, 37, 38, 39, 40, 41, 42, 43, 44, 45, 46, 47, 48, 49, 50, 51, 52, 53, 54, 55, 56, 57, 58, 59, 60]
def lenK (H : List HE) (K : Nat → Prop) : Prop := natL lits H.length K
def valsK : List Value → (List SV → Prop) → Prop
  | [], K => K []
  | x :: xs, K => valsK xs fun ys => K (.v x :: ys)
def appK : List HE → HE → (List HE → Prop) → Prop
  | [], y, K => K [y]
  | x :: xs, y, K => appK xs y fun ys => K (x :: ys)
/-- The rows that are known. -/
def rowOf : HE → Option (Nat × Nat × (Nat → Nat → Value))
  | .row sz n f => some (sz, n, f)
  | .own _ sz n f => some (sz, n, f)
  | _ => none
def closedK : List SV → (List Value → Prop) → Prop
  | [], K => K []
  | .v x :: r, K => closedK r fun xs => K (x :: xs)
  | .kb b :: r, K => closedK r fun xs => K (.bool b :: xs)
  | _, _ => False
def closedO : List SV → Option (List Value)
  | [] => some []
  | .v x :: r => match closedO r with
    | some xs => some (x :: xs)
    | none => none
  | .kb b :: r => match closedO r with
    | some xs => some (.bool b :: xs)
    | none => none
  | _ => none
/-- Off so many, so many of them. -/
def cutK : List SV → Nat → Nat → (List SV → Prop) → Prop
  | _, 0, 0, K => K []
  | [], _, _, _ => False
  | x :: xs, 0, n + 1, K => cutK xs 0 n fun ys => K (x :: ys)
  | _ :: xs, o + 1, n, K => cutK xs o n K
/-- Others in their place, from a place on. -/
def layK : List SV → Nat → List SV → (List SV → Prop) → Prop
  | xs, _, [], K => K xs
  | [], _, _ :: _, _ => False
  | _ :: xs, 0, y :: ys, K => layK xs 0 ys fun zs => K (y :: zs)
  | x :: xs, o + 1, y :: ys, K => layK xs o (y :: ys) fun zs => K (x :: zs)
/-- Others in their place, from a place on. -/
def layL (xs : List SV) (o : Nat) (ys : List SV) : List SV := xs.take o ++ ys ++ xs.drop (o + ys.length)
/-- A symbolic value that is some value. -/
def nj (s : SV) (K : SV → Prop) : Prop := match s with
  | .junk => False
  | .v x => K (.v x)
  | .kb b => K (.kb b)
  | .p i o => K (.p i o)
  | .s i o n c => K (.s i o n c)
  | .rp i z r c => K (.rp i z r c)
  | .rs i n c => K (.rs i n c)
  | .os i n => K (.os i n)
  | .ov i z l n => K (.ov i z l n)
  | .m i => K (.m i)
  | .fn f c => K (.fn f c)
  | .agg c => K (.agg c)
  | .tup c => K (.tup c)
/-- An element of an array: at a number that is written out, or at any. -/
inductive IdxN (p q : Prop) : Prop where
  | lit (h : p)
  | sym (h : q)
/-- What stands at a place, told by whoever walks. -/
structure SelN (cs : List SV) (o : Nat) (K : SV → Prop) : Prop where
  out : ∃ s, (getS cs o ≠ .junk ∧ ∀ ρ, (getS cs o).den ρ = s.den ρ) ∧ nj s K
theorem SelN.mk' {cs : List SV} {o : Nat} {K : SV → Prop} (s : SV) (h : getS cs o ≠ .junk ∧ ∀ ρ, (getS cs o).den ρ = s.den ρ) (k : nj s K) : SelN cs o K := ⟨s, h, k⟩
/-- What stands there behind others were laid. -/
structure LayN (cs : List SV) (o : Nat) (ds : List SV) (K : List SV → Prop) : Prop where
  out : ∃ cs', (o + ds.length ≤ cs.length ∧ ∀ ρ, SV.denL ρ (layL cs o ds) = SV.denL ρ cs') ∧ K cs'
theorem LayN.mk' {cs : List SV} {o : Nat} {ds : List SV} {K : List SV → Prop} (cs' : List SV) (h : o + ds.length ≤ cs.length ∧ ∀ ρ, SV.denL ρ (layL cs o ds) = SV.denL ρ cs') (k : K cs') : LayN cs o ds K := ⟨cs', h, k⟩
/-- What lies at an address that is written out, told by whoever walks. -/
structure LoadC (H : List HE) (a : Addr) (n : Nat) (K : List Value → Prop) : Prop where
  out : a.spot = none ∧ ∃ vs : List Value, (vs.length = n ∧ ∀ (w0 : World) (U : Nat → Prop) (ρ : Loc) (w : World), HOk w0 U ρ H w → ∀ j v, vs[j]? = some v → w.cell? ⟨a.block, a.off + j, none⟩ = some v) ∧ K vs
theorem LoadC.mk' {H : List HE} {a : Addr} {n : Nat} {K : List Value → Prop} (vs : List Value) (hs : a.spot = none) (hn : vs.length = n) (h : ∀ (w0 : World) (U : Nat → Prop) (ρ : Loc) (w : World), HOk w0 U ρ H w → ∀ j v, vs[j]? = some v → w.cell? ⟨a.block, a.off + j, none⟩ = some v) (k : K vs) : LoadC H a n K := ⟨hs, vs, ⟨hn, h⟩, k⟩
def oneV (vs : List Value) (K : SV → Prop) : Prop := match vs with
  | [v] => K (.v v)
  | _ => False
/-- One that is one cell. -/
def oneB (s : SV) : Bool := match s with
  | .junk => false
  | .v x => x.oneCell'
  | .agg _ => false
  | .tup _ => false
  | _ => true
def allOne : List SV → Bool
  | [] => true
  | x :: xs => oneB x && allOne xs
def cellsK (s : SV) (K : List SV → Prop) : Prop := match s with
  | .junk => False
  | .v (.agg _) => False
  | .v (.tuple _) => False
  | .tup _ => False
  | .agg cs => Need (allOne cs = true) (K cs)
  | .v x => K [.v x]
  | .kb b => K [.kb b]
  | .p i o => K [.p i o]
  | .s i o n c => K [.s i o n c]
  | .rp i z r c => K [.rp i z r c]
  | .rs i n c => K [.rs i n c]
  | .os i n => K [.os i n]
  | .ov i z l n => K [.ov i z l n]
  | .m i => K [.m i]
  | .fn f c => K [.fn f c]
def vals : List Value → List SV
  | [] => []
  | x :: xs => .v x :: vals xs
def mapRow (f : Nat → Nat → Value) (r : Nat) : Nat → Nat → List SV
  | _, 0 => []
  | c, n + 1 => .v (f r c) :: mapRow f r (c + 1) n

def opd (tm : List SV) : Operand → SV
  | .tmp t => getS tm t
  | .const v => match v with
    | .bool b => .kb b
    | v => .v v
  | .global _ => .junk
  | .func f => .fn (.func f) []

/-- The same; a boolean that is known as it is at other times. -/
def opN (tm : List SV) (x : Operand) : SV := match opd tm x with
  | .kb b => .v (.bool b)
  | s => s
/-- A number's bits with another one's. -/
def bitI (f : ∀ n, BitVec n → BitVec n → BitVec n) (k : IntKind) (a b : Int) : Int := k.wrap (f k.bits (BitVec.ofInt k.bits a) (BitVec.ofInt k.bits b)).toNat
def arith (op : BinOp) (k : IntKind) (a b : Int) (K : SV → Prop) : Prop := match op with
  | .add => Ar k (a + b) K
  | .sub => Ar k (a - b) K
  | .mul => Ar k (a * b) K
  | .quo => Need (0 ≤ a ∧ 0 < b) (Ar k (a / b) K)
  | .rem => Need (0 ≤ a ∧ 0 < b) (K (.v (.int k (a % b))))
  | .eql => K (.v (.bool (a == b)))
  | .neq => K (.v (.bool (a != b)))
  | .lss => K (.v (.bool (decide (a < b))))
  | .leq => K (.v (.bool (decide (a ≤ b))))
  | .gtr => K (.v (.bool (decide (b < a))))
  | .geq => K (.v (.bool (decide (b ≤ a))))
  | .and => K (.v (.int k (bitI (fun _ x y => x &&& y) k a b)))
  | .or => K (.v (.int k (bitI (fun _ x y => x ||| y) k a b)))
  | .xor => K (.v (.int k (bitI (fun _ x y => x ^^^ y) k a b)))
  | .shr => Need (b = 1) (K (.v (.int k (a / 2))))
  | _ => False
def sarith (op : BinOp) (a b : List UInt8) (K : SV → Prop) : Prop := match op with
  | .add => Need (a.length + b.length ≤ 9223372036854775807) (K (.v (.string ⟨⟨a ++ b⟩⟩)))
  | .eql => K (.v (.bool (a == b)))
  | .neq => K (.v (.bool (a != b)))
  | .lss => K (.v (.bool (Op.bytesLess a b)))
  | .leq => K (.v (.bool (Op.bytesLess a b || a == b)))
  | .gtr => K (.v (.bool (!(Op.bytesLess a b || a == b))))
  | .geq => K (.v (.bool (!(Op.bytesLess a b))))
  | _ => False
def eqOne (z x y : Value) (K : Bool → Prop) : Prop := match z, x, y with
  | .int k _, .int k1 a, .int k2 b => Need (k1 = k ∧ k2 = k) (K (a == b))
  | .bool _, .bool a, .bool b => K (a == b)
  | .string _, .string ⟨⟨a⟩⟩, .string ⟨⟨b⟩⟩ => K (a == b)
  | _, _, _ => False
def eqNilC (xs ys : List SV) (K : Bool → Prop) : Prop := match xs, ys with
  | [], [] => K true
  | _, _ => False
def eqConsC (z : Value) (ih : List SV → List SV → (Bool → Prop) → Prop) (xs ys : List SV) (K : Bool → Prop) : Prop := match xs, ys with
  | .v x :: xs, .v y :: ys => eqOne z x y fun a => ih xs ys fun r => K (a && r)
  | _, _ => False
/-- Cell by cell. -/
def eqCells (zs : List Value) : List SV → List SV → (Bool → Prop) → Prop :=
  @List.rec Value (fun _ => List SV → List SV → (Bool → Prop) → Prop) eqNilC (fun z _ ih => eqConsC z ih) zs
def nilP (H : List HE) : SV → Option Bool
  | .v (.pointer none) => some true
  | .v (.pointer (some _)) => some false
  | .p i _ => match getH H i with
    | .blk _ _ => some false
    | .obj1 _ _ _ _ _ _ => some false
    | _ => none
  | _ => none
def nilS (H : List HE) : SV → Option Bool
  | .v (.slice none _ _) => some true
  | .v (.slice (some _) _ _) => some false
  | .s i _ _ _ => match getH H i with
    | .blk _ _ => some false
    | _ => none
  | _ => none
def nilSK (H : List HE) (x : SV) (K : Bool → Prop) : Prop := match x with
  | .rs i n _ => match getH H i with
    | .row _ n' _ => Need (0 < n ∧ n ≤ n') (K false)
    | _ => False
  | .os i n => match getH H i with
    | .own _ _ n' _ => Need (0 < n ∧ n ≤ n') (K false)
    | _ => False
  | x => match nilS H x with
    | some b => K b
    | none => False
def nilM (H : List HE) : SV → Option Bool
  | .m i => match getH H i with
    | .mp _ _ _ _ => some false
    | _ => none
  | .v (.map none) => some true
  | .v (.map (some _)) => some false
  | _ => none
def eqNil (op : BinOp) (a : Option Bool) (K : SV → Prop) : Prop := match op, a with
  | .eql, some a => K (.v (.bool a))
  | .neq, some a => K (.v (.bool !a))
  | _, _ => False
section
variable (T : Tab)
def loadK (H : List HE) (t : TypeId) (x : SV) (K : SV → Prop) : Prop := match x with
  | .p i off => match T.ty t, getH H i with
    | some ti, .blk _ cs => match ti.agg with
      | true => cutK cs off ti.size fun ds => Need (allOne ds = true) (K (.agg ds))
      | false => nj (getS cs off) K
    | _, _ => False
  | .rp i sz r c => match T.ty t, rowOf (getH H i) with
    | some ti, some (sz', n, f) => Need (sz = sz' ∧ r < n ∧ c + ti.size ≤ sz') (match ti.agg with
      | true => K (.agg (mapRow f r c ti.size))
      | false => Need (0 < ti.size) (K (.v (f r c))))
    | some ti, none => match getH H i, ti.agg with
      | .blk _ cs, false => SelN cs (r * sz + c) K
      | _, _ => False
    | _, _ => False
  | .v (.pointer (some a)) => match T.ty t with
    | some ti => match ti.agg with
      | true => LoadC H a ti.size fun vs => valsK vs fun ds => K (.agg ds)
      | false => LoadC H a 1 fun vs => oneV vs K
    | none => False
  | _ => False
def partK (t : TypeId) (cs : List SV) (off : Nat) (K : SV → Prop) : Prop := match T.ty t with
  | some ti => match ti.agg with
    | true => cutK cs off ti.size fun ds => K (.agg ds)
    | false => nj (getS cs off) K
  | none => False
def fillOne (place : Nat → Option (Nat × Nat)) (q : Nat × SV) (cells : List SV) (K : List SV → Prop) : Prop := match place q.1 with
  | none => False
  | some (off, size) => cellsK q.2 fun ds => match Nat.beq ds.length size && Nat.blt 0 size with
    | true => layK cells off ds K
    | false => False
def fillConsC (place : Nat → Option (Nat × Nat)) (q : Nat × SV) (ih : List SV → (List SV → Prop) → Prop) (cells : List SV) (K : List SV → Prop) : Prop := fillOne place q cells fun cells' => ih cells' K
/-- The parts of a composite, one after the other. -/
def fillK (place : Nat → Option (Nat × Nat)) (cells : List SV) (parts : List (Nat × SV)) (K : List SV → Prop) : Prop :=
  @List.rec (Nat × SV) (fun _ => List SV → (List SV → Prop) → Prop) (fun cells K => K cells) (fun q _ ih => fillConsC place q ih) parts cells K
def structPlace (fs : List (Nat × TypeId)) (i : Nat) : Option (Nat × Nat) := match fs[i]? with
  | some (off, t) => match T.ty t with
    | some ti => some (off, ti.size)
    | none => none
  | none => none
def allPlaces : List (Nat × TypeId) → Option (List (Nat × Nat))
  | [] => some []
  | (off, t) :: r => match T.ty t, allPlaces r with
    | some ti, some ps => some ((off, ti.size) :: ps)
    | _, _ => none
def getP : List (Nat × Nat) → Nat → Option (Nat × Nat)
  | [], _ => none
  | x :: _, 0 => some x
  | _ :: xs, n + 1 => getP xs n
def rowPlace (sz : Nat) (i : Nat) : Option (Nat × Nat) := some (i * sz, sz)
def opds (tm : List SV) : List (Nat × Operand) → List (Nat × SV)
  | [] => []
  | (i, x) :: r => (i, opd tm x) :: opds tm r

/-- Is a key another one? -/
def keyEq1 : Value → Value → Bool
  | .int _ a, .int _ b => a == b
  | .bool a, .bool b => a == b
  | .string ⟨⟨a⟩⟩, .string ⟨⟨b⟩⟩ => a == b
  | _, _ => false
def keyEqL : List Value → List Value → Bool
  | [], [] => true
  | x :: xs, y :: ys => keyEq1 x y && keyEqL xs ys
  | _, _ => false
def keyEq : Value → Value → Bool
  | .agg ⟨xs⟩, .agg ⟨ys⟩ => keyEqL xs ys
  | x, y => keyEq1 x y
/-- What stands in a map. -/
def lookE : List (Value × Value) → Value → Option Value
  | [], _ => none
  | p :: r, k => if keyEq k p.1 then some p.2 else lookE r k
/-- A map with a key's value set. -/
def updE : List (Value × Value) → Value → Value → List (Value × Value)
  | [], k, v => [(k, v)]
  | p :: r, k, v => if keyEq k p.1 then (k, v) :: r else p :: updE r k v
def delE : List (Value × Value) → Value → List (Value × Value)
  | [], _ => []
  | p :: r, k => if keyEq k p.1 then r else p :: delE r k
/-- The stamp of a key's entry. -/
def stampL (k : Value) : List MapEntry → Int
  | [] => 0
  | e :: es => if keyEq k e.key then (e.born : Int) else stampL k es
def stampOf (ents : Array MapEntry) (k : Value) : Int := stampL k ents.toList
/-- Which entry a stamp is of, told by whoever walks. -/
structure EntS (ag : Bool) (zk : List Value) (es : List (Value × Value)) (ents : Array MapEntry) (s : Int) (K : Value → Prop) : Prop where
  out : ∃ k, (s = stampOf ents k ∧ (lookE es k).isSome = true ∧ keyOK ag zk k = true) ∧ K k
/-- What is found, told by whoever walks. -/
structure LookN (es : List (Value × Value)) (k : Value) (K : Option Value → Prop) : Prop where
  out : ∃ o, lookE es k = o ∧ K o
/-- A step of a loop over a map: nothing is left, or something comes out. -/
structure NextN (es vis : List (Value × Value)) (done : Prop) (more : Value → Value → Prop) : Prop where
  done : vis.Perm es → done
  more : ∀ (k v : Value) (rest : List (Value × Value)), (vis ++ (k, v) :: rest).Perm es → more k v
/-- What came out, in the words of whoever walks. -/
structure EntryN (vis : List (Value × Value)) (K : SV → Prop) : Prop where
  out : ∃ (k v : Value) (s1 s2 : SV), vis.getLast? = some (k, v) ∧ ((∀ ρ, s1.den ρ = k) ∧ ∀ ρ, s2.den ρ = v) ∧ K (.tup [s1, s2])
def keyK (s : SV) (K : Value → Prop) : Prop := match s with
  | .agg cs => closedK cs fun vs => K (.agg ⟨vs⟩)
  | .kb b => K (.bool b)
  | .v x => K x
  | _ => False
def svK (v : Value) (K : SV → Prop) : Prop := match v with
  | .agg ⟨cs⟩ => valsK cs fun ss => K (.agg ss)
  | .tuple _ => False
  | v => K (.v v)
def zeroK (te : TI) (K : SV → Prop) : Prop := match te.agg with
  | true => valsK te.zero fun zs => K (.agg zs)
  | false => match te.zero with
    | [z] => K (.v z)
    | _ => False
def foundK (te : TI) (ok : Bool) (o : Option Value) (K : SV → Prop) : Prop := match o with
  | some v => svK v fun s => match ok with
    | true => K (.tup [s, .kb true])
    | false => K s
  | none => zeroK te fun s => match ok with
    | true => K (.tup [s, .kb false])
    | false => K s
/-- Bytes of a slice, from a row on, so many: written out. -/
def bytesK (f : Nat → Nat → Value) (m : Nat) : Nat → (List UInt8 → Prop) → Prop :=
  @Nat.rec (fun _ => Nat → (List UInt8 → Prop) → Prop) (fun _ K => K []) (fun _ ih k K => match f k 0 with
    | .int .u8 z => ih (Nat.add k 1) fun l => K (UInt8.ofNat z.toNat :: l)
    | _ => False) m
/-- What leaves the memory alone. -/
def xPure (tm : List SV) (H : List HE) (o : Op) (K : SV → Prop) : Prop := match o with
  | .move x => nj (opd tm x) K
  | .assign x => nj (opd tm x) K
  | .pick c a b => match opd tm c with
    | .kb true => nj (opd tm a) K
    | .kb false => nj (opd tm b) K
    | _ => False
  | .load t a => loadK T H t (opd tm a) K
  | .nilCheck x => match opd tm x with
    | .p i off => match getH H i with
      | .blk _ _ => K (.p i off)
      | _ => False
    | .rp i sz r c => match rowOf (getH H i) with
      | some (_, n, _) => Need (r < n) (K (.rp i sz r c))
      | _ => False
    | .fn f c => match f with
      | .func g => K (.fn (.func g) c)
      | _ => False
    | .v (.pointer (some a)) => K (.v (.pointer (some a)))
    | _ => False
  | .binOp op t x y _ => match opN tm x, opN tm y with
    | .v (.int k a), .v (.int k' b) => Need (k = k') (arith op k a b K)
    | .v (.string ⟨⟨a⟩⟩), .v (.string ⟨⟨b⟩⟩) => sarith op a b K
    | .v (.bool a), .v (.bool b) => match T.ty t with
      | some ti => match ti.kind, op with
        | .bool, .eql => K (.v (.bool (a == b)))
        | .bool, .neq => K (.v (.bool (a != b)))
        | _, _ => False
      | none => False
    | .agg xs, .agg ys => match T.ty t with
      | some ti => match ti.eqs, op with
        | true, .eql => eqCells ti.zero xs ys fun b => K (.v (.bool b))
        | true, .neq => eqCells ti.zero xs ys fun b => K (.v (.bool !b))
        | _, _ => False
      | none => False
    | x, .v y => match T.ty t with
      | some ti => match ti.kind, y with
        | .ptr _, .pointer none => eqNil op (nilP H x) K
        | .slice _, .slice none _ _ => nilSK H x fun b => eqNil op (some b) K
        | .map _ _, .map none => eqNil op (nilM H x) K
        | _, _ => False
      | none => False
    | _, _ => False
  | .unOp op _ x => match op, opd tm x with
    | .not, .v (.bool b) => K (.v (.bool !b))
    | .not, .kb b => match b with
      | true => K (.kb false)
      | false => K (.kb true)
    | .neg, .v (.int k n) => Ar k (0 - n) K
    | _, _ => False
  | .convert src dst x => match opd tm x, T.ty src, T.ty dst with
    | .v (.int _ n), some _, some ti => match ti.kind with
      | .int k => Ar k n K
      | _ => False
    | .v (.string s), some si, some ti => match si.kind, ti.kind with
      | .str, .str => K (.v (.string s))
      | _, _ => False
    | .os i n, some si, some ti => match si.kind, ti.kind with
      | .slice e, .str => match (T.ty e).map TI.kind, getH H i with
        | some (.int .u8), .own _ sz n' f => Need (sz = 1 ∧ n' = n ∧ 0 < n) (bytesK f n 0 fun l => K (.v (.string ⟨⟨l⟩⟩)))
        | _, _ => False
      | _, _ => False
    | _, _, _ => False
  | .makeFunc f first captured => match first.toList with
    | [] => capsK (captured.toList.map (opd tm)) fun cs => K (.fn f cs)
    | _ => False
  | .fieldAddr s x i => match T.ty s with
    | some ti => match ti.kind with
      | .struct fs => match structPlace T fs i with
        | some (_, 0) => False
        | some (off, _) => match opd tm x with
          | .p j o => match getH H j with
            | .blk _ _ => K (.p j (o + off))
            | _ => False
          | .rp j sz r c => match rowOf (getH H j) with
            | some (_, n, _) => Need (r < n) (K (.rp j sz r (c + off)))
            | _ => False
          | .v (.pointer (some a)) => Need (a.spot = none) (K (.v (.pointer (some ⟨a.block, a.off + off, none⟩))))
          | _ => False
        | none => False
      | _ => False
    | none => False
  | .field s x i => match T.ty s with
    | some ti => match ti.kind, opd tm x with
      | .struct fs, .agg cs => match fs[i]? with
        | some (off, t) => partK T t cs off K
        | none => False
      | _, _ => False
    | none => False
  | .indexAddr t x ix => match T.ty t with
    | some ti => match ti.kind, opd tm x, opd tm ix with
      | .slice e, .rs i n _, .v (.int _ m) => match T.ty e, getH H i with
        | some te, .row _ n' _ => Need (0 ≤ m ∧ m < n ∧ n ≤ n') (K (.rp i te.size m.toNat 0))
        | _, _ => False
      | .slice e, .os i n, .v (.int _ m) => match T.ty e, rowOf (getH H i) with
        | some te, some (_, n', _) => Need (0 ≤ m ∧ m < n ∧ n ≤ n') (K (.rp i te.size m.toNat 0))
        | _, _ => False
      | .slice e, .s i off n _, .v (.int _ m) => match T.ty e, getH H i with
        | some te, .blk _ _ => Need (0 ≤ m ∧ m < n) (K (.p i (off + m.toNat * te.size)))
        | _, _ => False
      | .arr n e, .p i off, .v (.int _ m) => match T.ty e, getH H i with
        | some te, .blk _ _ => Need (0 ≤ m ∧ m < n) (IdxN (K (.p i (off + m.toNat * te.size))) (K (.rp i te.size m.toNat off)))
        | _, _ => False
      | .arr n e, .rp i sz r c, .v (.int _ m) => match T.ty e, rowOf (getH H i) with
        | some te, some (_, n', _) => Need (0 ≤ m ∧ m < n ∧ r < n') (IdxN (natL lits (c + m.toNat * te.size) fun c' => K (.rp i sz r c')) (K (.rp i sz r (c + m.toNat * te.size))))
        | _, _ => False
      | .slice e, .ov i z lo n, .v (.int _ m) => match T.ty e, getH H i with
        | some te, .own _ _ n' _ => Need (0 ≤ m ∧ m < n ∧ lo + n ≤ n' ∧ z = te.size) (K (.rp i te.size (lo + m.toNat) 0))
        | _, _ => False
      | .slice e, .v (.slice (some a) n _), .v (.int _ m) => match T.ty e with
        | some te => Need (0 ≤ m ∧ m < n ∧ a.spot = none) (K (.v (.pointer (some ⟨a.block, a.off + m.toNat * te.size, none⟩))))
        | none => False
      | _, _, _ => False
    | none => False
  | .index t x ix => match T.ty t with
    | some ti => match ti.kind, opd tm x, opd tm ix with
      | .str, .v (.string ⟨⟨l⟩⟩), .v (.int _ m) => Need (0 ≤ m ∧ m < l.length) (K (.v (.int .u8 (l.getD m.toNat 0).toNat)))
      | .arr n e, .agg cs, .v (.int _ m) => match T.ty e with
        | some te => Need (0 ≤ m ∧ m < n) (IdxN (partK T e cs (m.toNat * te.size) K) (match te.agg with
          | true => False
          | false => SelN cs (m.toNat * te.size) K))
        | none => False
      | _, _, _ => False
    | none => False
  | .extract x i => match opd tm x with
    | .tup vs => nj (getS vs i) K
    | .v (.tuple ⟨vs⟩) => match vs[i]? with
      | some y => K (.v y)
      | none => False
    | _ => False
  | .build t parts => match T.ty t with
    | some ti => match ti.kind with
      | .struct fs => match allPlaces T fs with
        | some ps => valsK ti.zero fun zs => fillK (getP ps) zs (opds tm parts.toList) fun cs => K (.agg cs)
        | none => False
      | .arr _ e => match T.ty e with
        | some te => valsK ti.zero fun zs => fillK (rowPlace te.size) zs (opds tm parts.toList) fun cs => K (.agg cs)
        | none => False
      | _ => False
    | none => False
  | .slice t x lo hi mx => match T.ty t, mx with
    | some ti, none => match ti.kind, opd tm x with
      | .str, .v (.string ⟨⟨l⟩⟩) => boundK tm lo 0 fun a => boundK tm hi l.length fun b => Need (0 ≤ a ∧ a ≤ b ∧ b ≤ l.length) (K (.v (.string ⟨⟨(l.drop a.toNat).take (b.toNat - a.toNat)⟩⟩)))
      | .slice e, .rs i n c => match lo with
        | none => match T.ty e with
          | some _ => boundK tm hi n fun b => Need (0 ≤ b ∧ b ≤ c) (K (.rs i b.toNat c))
          | none => False
        | some _ => False
      | .slice e, .os i n => match lo with
        | none => match T.ty e, getH H i with
          | some _, .own _ _ n' _ => boundK tm hi n fun b => Need (0 ≤ b ∧ b ≤ n ∧ n ≤ n') (K (.os i b.toNat))
          | _, _ => False
        | some l => match T.ty e, getH H i with
          | some te, .own _ _ n' _ => boundK tm (some l) 0 fun a => boundK tm hi n fun b => Need (0 ≤ a ∧ a ≤ b ∧ b ≤ n ∧ n ≤ n') (K (.ov i te.size a.toNat (b.toNat - a.toNat)))
          | _, _ => False
      | _, _ => False
    | _, _ => False
  | .lookup t x ix ok => match T.ty t with
    | some ti => match ti.kind with
      | .map k e => match T.ty k, T.ty e with
        | some tk, some te => match opd tm x with
          | .m i => match getH H i with
            | .mp ag zk es _ => keyK (opd tm ix) fun kv => Need ((ag = tk.agg ∧ zk = tk.zero ∧ tk.isKey = true) ∧ keyOK ag zk kv = true) (LookN es kv fun o => foundK te ok o K)
            | _ => False
          | .v (.map none) => keyK (opd tm ix) fun kv => Need (tk.isKey = true ∧ keyOK tk.agg tk.zero kv = true) (foundK te ok none K)
          | _ => False
        | _, _ => False
      | _ => False
    | none => False
  | .entry it => match opd tm it with
    | .p i 0 => match getH H i with
      | .iter j ents clock vis => match getH H j with
        | .mp _ _ _ (some (ents', clock')) => Need (ents' = ents ∧ clock' = clock) (EntryN vis K)
        | _ => False
      | _ => False
    | _ => False
  | .call c => match c.callee, c.args.toList with
    | .builtin .len, [x] => match opd tm x, (c.argTypes[0]?).bind T.ty with
      | .rs _ n _, some ti => match ti.kind with | .slice _ => K (.v (.int .i64 n)) | _ => False
      | .os _ n, some ti => match ti.kind with | .slice _ => K (.v (.int .i64 n)) | _ => False
      | .ov _ _ _ n, some ti => match ti.kind with | .slice _ => K (.v (.int .i64 n)) | _ => False
      | .s _ _ n _, some ti => match ti.kind with | .slice _ => K (.v (.int .i64 n)) | _ => False
      | .v (.slice _ n _), some ti => match ti.kind with | .slice _ => K (.v (.int .i64 n)) | _ => False
      | .v (.map none), some ti => match ti.kind with | .map _ _ => K (.v (.int .i64 0)) | _ => False
      | .m i, some ti => match ti.kind, getH H i with | .map _ _, .mp _ _ es _ => K (.v (.int .i64 es.length)) | _, _ => False
      | .v (.string ⟨⟨l⟩⟩), some ti => match ti.kind with | .str => K (.v (.int .i64 l.length)) | _ => False
      | _, _ => False
    | .builtin .min, [x, y] => match opd tm x, opd tm y with
      | .v (.int k a), .v (.int _ b) => K (.v (.int k (min a b)))
      | _, _ => False
    | .builtin .max, [x, y] => match opd tm x, opd tm y with
      | .v (.int k a), .v (.int _ b) => K (.v (.int k (max a b)))
      | _, _ => False
    | _, _ => False
  | _ => False
where
  capsK : List SV → (List (Nat × Nat) → Prop) → Prop
    | [], K => K []
    | .p i o :: r, K => capsK r fun cs => K ((i, o) :: cs)
    | _, _ => False
  boundK (tm : List SV) (x : Option Operand) (d : Nat) (K : Int → Prop) : Prop := match x with
    | none => K d
    | some y => match opd tm y with
      | .v (.int _ m) => K m
      | _ => False
end

/-- Does it call a function of the program's? -/
def callOf (o : Op) : Option (Operand × List Operand) := match o with
  | .call c => match c.callee with
    | .value f => some (f, c.args.toList)
    | _ => none
  | _ => none
def argsK (tm : List SV) : List Operand → (List SV → Prop) → Prop
  | [], K => K []
  | x :: xs, K => nj (opd tm x) fun s => argsK tm xs fun ss => K (s :: ss)
def capS : List (Nat × Nat) → List SV
  | [] => []
  | (i, o) :: r => .p i o :: capS r
def joinK : List SV → List SV → (List SV → Prop) → Prop
  | [], ys, K => K ys
  | x :: xs, ys, K => joinK xs ys fun zs => K (x :: zs)

section
variable (P : Program) (w0 : World) (U : Nat → Prop) (T : Tab)
/-- A call that may change the memory. -/
structure CallN (f : FuncId) (args : List SV) (H : List HE) (K : SV → List HE → Prop) : Prop where
  out : ∀ ρ w, HRel w0 U ρ H w → Calls P f (SV.denL ρ args).toArray w fun e w' => ∃ sv H' ρ', (∀ ρ'', Same H'.length ρ' ρ'' → e = .returned (sv.den ρ'')) ∧ HRel w0 U ρ' H' w' ∧ Same H.length ρ ρ' ∧ H.length ≤ H'.length ∧ K sv H'
/-- A call that leaves what is known as it is. -/
structure CallQ (f : FuncId) (args : List SV) (H : List HE) (K : SV → Prop) : Prop where
  out : ∃ v : Value, (∀ ρ w, HRel w0 U ρ H w → Calls P f (SV.denL ρ args).toArray w fun e w' => e = .returned v ∧ HRel w0 U ρ H w') ∧ K (.v v)
def callX (tm : List SV) (f : Operand) (args : List Operand) (K : FuncId → List SV → Prop) : Prop := match opd tm f with
  | .fn (.func g) caps => match T.fn g with
    | true => argsK tm args fun ss => joinK ss (capS caps) fun all => K g all
    | false => False
  | _ => False
/-- What is appended: how many rows, and which. -/
def newsK (H : List HE) (sz : Nat) (y : SV) (K : Nat → (Nat → Nat → Value) → Prop) : Prop := match y with
  | .s j off m _ => match getH H j with
    | .blk _ cs => cutK cs off (m * sz) fun ds => closedK ds fun vs => Need (∀ u ∈ vs, u.oneCell' = true) (K m fun r c => vs.getD (r * sz + c) undef)
    | _ => False
  | .rs j m _ => match getH H j with
    | .row sz' m' f => Need (sz' = sz ∧ m ≤ m' ∧ ∀ r c, r < m → c < sz → (f r c).oneCell' = true) (K m f)
    | _ => False
  | .os j m => match rowOf (getH H j) with
    | some (sz', m', f) => Need (sz' = sz ∧ m ≤ m' ∧ ∀ r c, r < m → c < sz → (f r c).oneCell' = true) (K m f)
    | none => False
  | .ov j z l m => match getH H j with
    | .own _ sz' m' f => Need (z = sz ∧ sz' = sz ∧ l + m ≤ m' ∧ ∀ r c, r < m → c < sz → (f (l + r) c).oneCell' = true) (K m fun r c => f (l + r) c)
    | _ => False
  | .v (.slice _ 0 _) => K 0 fun _ _ => undef
  | _ => False
/-- Rows behind rows. -/
def rowsApp (n : Nat) (f g : Nat → Nat → Value) : Nat → Nat → Value := fun r c => if r < n then f r c else g (r - n) c
/-- Cells of one row, others. -/
def updR (f : Nat → Nat → Value) (r c : Nat) (vs : List Value) : Nat → Nat → Value := fun r' c' => match Nat.beq r' r && Nat.ble c c' && Nat.blt c' (c + vs.length) with
  | true => vs.getD (c' - c) undef
  | false => f r' c'
/-- A text's bytes, as rows. -/
def strF (l : List UInt8) : Nat → Nat → Value := fun r _ => .int .u8 (l.getD r 0).toNat
def xAppS (tm : List SV) (H : List HE) (x y : Operand) (t t' : TypeId) (K : SV → List HE → Prop) : Prop := match T.ty t, T.ty t', opd tm y with
  | some ti, some ts, .v (.string ⟨⟨l⟩⟩) => match ti.kind, ts.kind with
    | .slice e, .str => match T.ty e with
      | some te => Need ((te.size = 1 ∧ te.bytes = 1) ∧ te.agg = false ∧ te.zero = [.int .u8 0]) (match opd tm x with
        | .v (.slice none 0 0) => Need (l.length ≤ 140737488355328) (appK H (.own e 1 l.length (strF l)) fun H' => lenK H fun i => K (.os i l.length) H')
        | .os i n => match getH H i with
          | .own ty sz n' f => Need (ty = e ∧ sz = 1 ∧ n' = n ∧ n + l.length ≤ 140737488355328)
            (setHK H i .none fun H1 => appK H1 (.own e 1 (n + l.length) (rowsApp n f (strF l))) fun H' => lenK H fun i => K (.os i (n + l.length)) H')
          | _ => False
        | _ => False)
      | none => False
    | _, _ => False
  | _, _, _ => False
/-- Appended to a slice that is known by a fact alone, or to nothing: what comes is laid under the seal (j), beside what else it says (R, of the blocks Zr). -/
structure AppI (H : List HE) (e : TypeId) (sz by_ : Nat) (v : Value) (n m : Nat) (g : Nat → Nat → Value) (K : SV → List HE → Prop) : Prop where
  out : ∃ (j : Nat) (Z Zr : Nat → Prop) (Q R : World → Prop) (f : Nat → Nat → Value), H[j]? = some (.res true Z Q) ∧ (0 < n + m ∧ n + m ≤ 9223372036854775807 ∧ (n + m) * by_ ≤ 140737488355328) ∧
    ((∀ b, Zr b → Z b) ∧ ∀ b, v.ownBlock = some b → Z b ∧ ¬ Zr b) ∧ (∀ w, Q w → w.ownsRow 0 e sz v n (cellsF sz f n) ∧ R w) ∧ (∀ w1 w2 : World, (∀ b, Zr b → w2.heap[b]? = w1.heap[b]?) → R w1 → R w2) ∧
    ∀ gb cap, ¬ Zr gb → setHK H j (.res true (fun b => Zr b ∨ b = gb) fun u => R u ∧ u.ownsRow 0 e sz (.slice (some ⟨gb, 0, none⟩) (n + m) cap) (n + m) (cellsF sz (rowsApp n f g) (n + m))) fun H' => K (.v (.slice (some ⟨gb, 0, none⟩) (n + m) cap)) H'
inductive AppN (p q : Prop) : Prop where
  | own (h : p)
  | into (h : q)
def xApp (tm : List SV) (H : List HE) (c : Call) (K : SV → List HE → Prop) : Prop := match c.args.toList, c.argTypes.toList with
  | [x, y], [t, t'] => match Nat.beq t' t, T.ty t with
    | true, some ti => match ti.kind with
      | .slice e => match T.ty e with
        | some te => newsK H te.size (opd tm y) fun m g => Need (0 < te.size ∧ te.zero.length = te.size) (match opd tm x with
          | .v (.slice none 0 0) => AppN (Need (m ≤ 9223372036854775807 ∧ m * te.bytes ≤ 140737488355328) (appK H (.own e te.size m g) fun H' => lenK H fun i => K (.os i m) H')) (AppI H e te.size te.bytes (.slice none 0 0) 0 m g K)
          | .v (.slice (some a) n cc) => AppI H e te.size te.bytes (.slice (some a) n cc) n m g K
          | .os i n => match getH H i with
            | .own ty sz n' f => Need (ty = e ∧ sz = te.size ∧ n' = n ∧ n + m ≤ 9223372036854775807 ∧ (n + m) * te.bytes ≤ 140737488355328)
              (setHK H i .none fun H1 => appK H1 (.own e te.size (n + m) (rowsApp n f g)) fun H' => lenK H fun i => K (.os i (n + m)) H')
            | _ => False
          | _ => False)
        | none => False
      | _ => False
    | false, some _ => xAppS T tm H x y t t' K
    | _, _ => False
  | _, _ => False
def isApp (o : Op) : Option Call := match o with
  | .call c => match c.callee with
    | .builtin .append => some c
    | _ => none
  | _ => none
def isDel (o : Op) : Option Call := match o with
  | .call c => match c.callee with
    | .builtin .delete => some c
    | _ => none
  | _ => none
def xDel (tm : List SV) (H : List HE) (c : Call) (K : SV → List HE → Prop) : Prop := match c.args.toList, c.argTypes[0]? with
  | [x, y], some t => match T.ty t with
    | some ti => match ti.kind, opd tm x with
      | .map k _, .m i => match T.ty k, getH H i with
        | some tk, .mp ag zk es _ => keyK (opd tm y) fun kv => Need ((ag = tk.agg ∧ zk = tk.zero ∧ tk.isKey = true) ∧ keyOK ag zk kv = true) (setHK H i (.mp ag zk (delE es kv) none) fun H' => K (.v (.tuple #[])) H')
        | _, _ => False
      | _, _ => False
    | none => False
  | _, _ => False
/-- An operation of a region whose order is that of the text. -/
def xOp (tm : List SV) (H : List HE) (o : Op) (K : SV → List HE → Prop) : Prop := match o with
  | .alloc t => match T.ty t with
    | some ti => valsK ti.zero fun cs => appK H (.blk t cs) fun H' => lenK H fun i => K (.p i 0) H'
    | none => False
  | .box t x => cellsK (opd tm x) fun cs => appK H (.blk t cs) fun H' => lenK H fun i => K (.p i 0) H'
  | .buildSlice t n parts => match T.ty t with
    | some ti => match ti.kind with
      | .slice e => match T.ty e with
        | some te => Need (0 < te.size ∧ te.zero.length = te.size ∧ n * te.size ≤ 16777216) (valsK (List.replicate n te.zero).flatten fun zs => fillK (rowPlace te.size) zs (opds tm parts.toList) fun cs => match closedO cs with
          | some vs => Need (vs.length = n * te.size) (appK H (.own e te.size n fun r c => vs.getD (r * te.size + c) undef) fun H' => lenK H fun i => K (.os i n) H')
          | none => appK H (.blk e cs) fun H' => lenK H fun i => K (.s i 0 n n) H')
        | none => False
      | _ => False
    | none => False
  | .store t a x => match opd tm a, T.ty t with
    | .p i off, some ti => match getH H i with
      | .blk ty cs => cellsK (opd tm x) fun ds => match Nat.beq ds.length ti.size with
        | true => layK cs off ds fun cs' => setHK H i (.blk ty cs') fun H' => K (.v undef) H'
        | false => False
      | _ => False
    | .rp i sz r c, some ti => match getH H i with
      | .own ty sz' n f => cellsK (opd tm x) fun ds => closedK ds fun vs => match Nat.beq ds.length ti.size with
        | true => Need (sz = sz' ∧ r < n ∧ c + vs.length ≤ sz) (setHK H i (.own ty sz' n (updR f r c vs)) fun H' => K (.v undef) H')
        | false => False
      | .blk ty cs => cellsK (opd tm x) fun ds => match Nat.beq ds.length ti.size with
        | true => LayN cs (r * sz + c) ds fun cs' => setHK H i (.blk ty cs') fun H' => K (.v undef) H'
        | false => False
      | _ => False
    | _, _ => False
  | .makeSlice t l c => match T.ty t, opd tm l, opd tm c with
    | some ti, .v (.int .i64 n), .v (.int .i64 m) => match ti.kind with
      | .slice e => match T.ty e with
        | some te => Need (0 ≤ n ∧ n ≤ 9223372036854775807 ∧ m = n ∧ te.bytes * n ≤ 140737488355328 ∧ 0 < te.size ∧ te.zero.length = te.size) (appK H (.own e te.size n.toNat fun _ c => te.zero.getD c undef) fun H' => lenK H fun i => K (.os i n.toNat) H')
        | none => False
      | _ => False
    | _, _, _ => False
  | .makeMap t none => match T.ty t with
    | some ti => match ti.kind with
      | .map k _ => match T.ty k with
        | some tk => Need (tk.isKey = true) (appK H (.mp tk.agg tk.zero [] none) fun H' => lenK H fun i => K (.m i) H')
        | none => False
      | _ => False
    | none => False
  | .mapUpdate t x ix y => match T.ty t with
    | some ti => match ti.kind, opd tm x with
      | .map k _, .m i => match T.ty k, getH H i with
        | some tk, .mp ag zk es _ => keyK (opd tm ix) fun kv => keyK (opd tm y) fun v => Need ((ag = tk.agg ∧ zk = tk.zero ∧ tk.isKey = true) ∧ keyOK ag zk kv = true) (setHK H i (.mp ag zk (updE es kv v) none) fun H' => K (.v undef) H')
        | _, _ => False
      | _, _ => False
    | none => False
  | .mapEntry t x ix => match T.ty t with
    | some ti => match ti.kind, opd tm x with
      | .map k e, .m i => match T.ty k, T.ty e, getH H i with
        | some tk, some te, .mp ag zk es _ => keyK (opd tm ix) fun kv => Need ((ag = tk.agg ∧ zk = tk.zero ∧ tk.isKey = true) ∧ keyOK ag zk kv = true) (LookN es kv fun o => ∀ (ents : Array MapEntry) (clock : Nat), setHK H i (.mp ag zk (updE es kv (o.getD te.zval)) (some (ents, clock))) fun H' => foundK te false o fun s => K (.tup [s, .v (.int .i64 (stampOf ents kv))]) H')
        | _, _, _ => False
      | _, _ => False
    | none => False
  | .entryStore _ x sx y => match opd tm x, opd tm sx with
    | .m i, .v (.int .i64 s) => match getH H i with
      | .mp ag zk es (some (ents, _)) => keyK (opd tm y) fun v => EntS ag zk es ents s fun k => setHK H i (.mp ag zk (updE es k v) none) fun H' => K (.v undef) H'
      | _ => False
    | _, _ => False
  | .range t x => match opd tm x, T.ty t with
    | .m i, some ti => match ti.kind, getH H i with
      | .map _ _, .mp ag zk es _ => ∀ (ents : Array MapEntry) (clock : Nat), setHK H i (.mp ag zk es (some (ents, clock))) fun H1 => appK H1 (.iter i ents clock []) fun H' => lenK H1 fun n => K (.p n 0) H'
      | _, _ => False
    | _, _ => False
  | .next it s => match s, opd tm it with
    | false, .p i 0 => match getH H i with
      | .iter j ents clock vis => match getH H j with
        | .mp _ _ es (some (ents', clock')) => Need (ents' = ents ∧ clock' = clock) (NextN es vis (K (.tup [.kb false]) H) fun k v => setHK H i (.iter j ents clock (vis ++ [(k, v)])) fun H' => K (.tup [.kb true, .v k, .v v]) H')
        | _ => False
      | _ => False
    | _, _ => False
  | o => match callOf o with
    | some (f, args) => callX T tm f args fun g ss => CallN P w0 U g ss H K
    | none => match isApp o with
      | some c => xApp T tm H c K
      | none => match isDel o with
        | some c => xDel T tm H c K
        | none => xPure T tm H o fun s => K s H
/-- Does a guard let it be? -/
def guardK (ops : Array Oper) (tm : List SV) (g : Option (Nat × Bool)) (yes no : List SV → Prop) : Prop := match g with
  | none => yes tm
  | some (j, want) => match (ops[j]?).bind (·.dst) with
    | none => no tm
    | some d => match getS tm d with
      | .kb true => match want with
        | true => yes tm
        | false => no tm
      | .kb false => match want with
        | true => no tm
        | false => yes tm
      | .v (.bool b) => match want with
        | true => Br b (setK tm d (.kb true) yes) (setK tm d (.kb false) no)
        | false => Br b (setK tm d (.kb true) no) (setK tm d (.kb false) yes)
      | .v (.tuple _) => no tm
      | _ => False
def opsCons (ops : Array Oper) (o : Oper) (ih : List SV → List HE → (List SV → List HE → Prop) → Prop) (tm : List SV) (H : List HE) (K : List SV → List HE → Prop) : Prop :=
  guardK ops tm o.guard
    (fun tm => xOp P w0 U T tm H o.op fun s H' => putK o.dst tm s fun tm' => ih tm' H' K)
    (fun tm => putK o.dst tm (.v undef) fun tm' => ih tm' H K)
def opsNil (tm : List SV) (H : List HE) (K : List SV → List HE → Prop) : Prop := K tm H
def xOps (ops : Array Oper) (l : List Oper) : List SV → List HE → (List SV → List HE → Prop) → Prop :=
  @List.rec Oper (fun _ => List SV → List HE → (List SV → List HE → Prop) → Prop) opsNil (fun o _ ih => opsCons P w0 U T ops o ih) l
def quiCons (ops : Array Oper) (H : List HE) (o : Oper) (ih : List SV → (List SV → Prop) → Prop) (tm : List SV) (K : List SV → Prop) : Prop :=
  guardK ops tm o.guard
    (fun tm => match callOf o.op with
      | some (f, args) => callX T tm f args fun g ss => CallQ P w0 U g ss H fun s => putK o.dst tm s fun tm' => ih tm' K
      | none => xPure T tm H o.op fun s => putK o.dst tm s fun tm' => ih tm' K)
    (fun tm => putK o.dst tm (.v undef) fun tm' => ih tm' K)
def quiNil (tm : List SV) (K : List SV → Prop) : Prop := K tm
/-- The same for a region that draws its order, and only reads. -/
def xQui (ops : Array Oper) (H : List HE) (l : List Oper) : List SV → (List SV → Prop) → Prop :=
  @List.rec Oper (fun _ => List SV → (List SV → Prop) → Prop) quiNil (fun o _ ih => quiCons P w0 U T ops H o ih) l
def quietOp (o : Op) : Bool := match o with
  | .alloc _ => false
  | .box _ _ => false
  | .buildSlice _ _ _ => false
  | .makeSlice _ _ _ => false
  | .store _ _ _ => false
  | .makeMap _ _ => false
  | .mapUpdate _ _ _ _ => false
  | .mapEntry _ _ _ => false
  | .entryStore _ _ _ _ => false
  | .range _ _ => false
  | .next _ _ => false
  | .call c => match c.callee with
    | .builtin .append => false
    | .builtin .delete => false
    | _ => true
  | _ => true
def forceL : List SV → (List SV → Prop) → Prop
  | [], K => K []
  | x :: xs, K => match x with
    | .junk => forceL xs fun ys => K (.junk :: ys)
    | x => nj x fun x' => forceL xs fun ys => K (x' :: ys)
def forceH : List HE → (List HE → Prop) → Prop
  | [], K => K []
  | x :: xs, K => match x with
    | .none => forceH xs fun ys => K (.none :: ys)
    | .blk t cs => forceL cs fun cs' => forceH xs fun ys => K (.blk t cs' :: ys)
    | .row sz n f => forceH xs fun ys => K (.row sz n f :: ys)
    | .own t sz n f => forceH xs fun ys => K (.own t sz n f :: ys)
    | .mp a z es st => forceH xs fun ys => K (.mp a z es st :: ys)
    | .res w Z Q => forceH xs fun ys => K (.res w Z Q :: ys)
    | .obj1 t p q a z es => forceH xs fun ys => K (.obj1 t p q a z es :: ys)
    | .iter j e c v => forceH xs fun ys => K (.iter j e c v :: ys)
def renI (σ : List (Option Nat)) (i : Nat) : Nat := match σ[i]? with
  | some (some j) => j
  | _ => 0
def isSome' (σ : List (Option Nat)) (i : Nat) : Bool := match σ[i]? with
  | some (some _) => true
  | _ => false
mutual
/-- The same value by other names of the blocks. -/
def SV.ren (σ : List (Option Nat)) : SV → SV
  | .junk => .junk
  | .v x => .v x
  | .kb b => .kb b
  | .p i o => .p (renI σ i) o
  | .s i o n c => .s (renI σ i) o n c
  | .rp i z r c => .rp (renI σ i) z r c
  | .rs i n c => .rs (renI σ i) n c
  | .os i n => .os (renI σ i) n
  | .ov i z l n => .ov (renI σ i) z l n
  | .m i => .m (renI σ i)
  | .fn f caps => .fn f (caps.map fun q => (renI σ q.1, q.2))
  | .agg cs => .agg (SV.renL σ cs)
  | .tup vs => .tup (SV.renL σ vs)
def SV.renL (σ : List (Option Nat)) : List SV → List SV
  | [] => []
  | c :: cs => c.ren σ :: SV.renL σ cs
end
mutual
/-- Every block that it names has an elder name. -/
def SV.has (σ : List (Option Nat)) : SV → Bool
  | .junk => true
  | .v _ => true
  | .kb _ => true
  | .p i _ => isSome' σ i
  | .s i _ _ _ => isSome' σ i
  | .rp i _ _ _ => isSome' σ i
  | .rs i _ _ => isSome' σ i
  | .os i _ => isSome' σ i
  | .ov i _ _ _ => isSome' σ i
  | .m i => isSome' σ i
  | .fn _ caps => caps.all fun q => isSome' σ q.1
  | .agg cs => SV.hasL σ cs
  | .tup vs => SV.hasL σ vs
def SV.hasL (σ : List (Option Nat)) : List SV → Bool
  | [] => true
  | c :: cs => c.has σ && SV.hasL σ cs
end
def isB (x : SV) (b : Bool) : Prop := match x with
  | .kb c => c = b
  | .v (.bool c) => c = b
  | _ => False
/-- Of an elder value (x) and a later one (y). -/
def leV (σ : List (Option Nat)) (x y : SV) : Prop := match y with
  | .junk => True
  | .v (.int k n) => x = .v (.int k n)
  | .v (.bool b) => isB x b
  | y => (y.has σ = true ∧ y.ren σ = x) ∨ (∃ i, y = .os i 0 ∧ σ[i]? = some none ∧ x = .v (.slice none 0 0))
def leT (σ : List (Option Nat)) : List SV → List SV → Prop
  | [], [] => True
  | x :: xs, y :: ys => leV σ x y ∧ leT σ xs ys
  | _, _ => False
def leC (σ : List (Option Nat)) (x y : SV) : Prop := match y with
  | .junk => False
  | .v (.int k n) => x = .v (.int k n)
  | .v (.bool b) => isB x b
  | .ov i z lo n => (isSome' σ i = true ∧ (x = .ov (renI σ i) z lo n ∨ (lo = 0 ∧ x = .os (renI σ i) n))) ∨ (σ[i]? = some none ∧ lo = 0 ∧ n = 0 ∧ x = .v (.slice none 0 0))
  | y => (y.has σ = true ∧ y.ren σ = x) ∨ (∃ i, y = .os i 0 ∧ σ[i]? = some none ∧ x = .v (.slice none 0 0))
def leCs (σ : List (Option Nat)) : List SV → List SV → Prop
  | [], [] => True
  | x :: xs, y :: ys => leC σ x y ∧ leCs σ xs ys
  | _, _ => False
def leE (σ : List (Option Nat)) (x : Option HE) (y : HE) : Prop := match y with
  | .none => True
  | .blk t cs => match x with
    | some (.blk t' xs) => t' = t ∧ leCs σ xs cs
    | _ => False
  | .row sz n f => x = some (.row sz n f)
  | .own ty sz n f => match x with
    | none => n = 0
    | some (.own ty' sz' n' f') => (ty' = ty ∧ sz' = sz ∧ n' = n) ∧ ∀ r c, r < n → c < sz → f' r c = f r c
    | some _ => False
  | .mp ag zk es st => match x with
    | some (.mp ag' zk' es' st') => (ag' = ag ∧ zk' = zk ∧ (st = none ∨ st' = st)) ∧ es' = es
    | _ => False
  | .res w Z Q => match x with
    | none => (∀ b, ¬ Z b) ∧ ∀ u, Q u
    | some (.res w' Z' Q') => (w' = w ∧ Z' = Z) ∧ ∀ u, Q' u ↔ Q u
    | some _ => False
  | .obj1 t p q a z es => match x with
    | some (.obj1 t' p' q' a' z' es') => (t' = t ∧ p' = p ∧ q' = q ∧ a' = a ∧ z' = z) ∧ es' = es
    | _ => False
  | .iter j ents clock vis => match x with
    | some (.iter j' ents' clock' vis') => (isSome' σ j = true ∧ renI σ j = j' ∧ ents' = ents ∧ clock' = clock) ∧ vis' = vis
    | _ => False
def leH (H : List HE) (σ0 : List (Option Nat)) : List (Option Nat) → List HE → Prop
  | [], [] => True
  | none :: s, y :: ys => leE σ0 none y ∧ leH H σ0 s ys
  | some i :: s, y :: ys => (∃ x, H[i]? = some x ∧ leE σ0 (some x) y) ∧ leH H σ0 s ys
  | _, _ => False
/-- The first m keep their names. -/
def idpB : Nat → Nat → List (Option Nat) → Bool
  | _, 0, _ => true
  | k, m + 1, some j :: s => Nat.beq j k && idpB (k + 1) m s
  | _, _ + 1, _ => false
/-- What is known is forgotten in part, and named anew (but for the first m). -/
def Less (m : Nat) (tm : List SV) (H : List HE) (tm' : List SV) (H' : List HE) : Prop := ∃ σ : List (Option Nat), ((σ.filterMap id).Nodup ∧ idpB 0 m σ = true) ∧ leH H σ σ H' ∧ leT σ tm tm'
structure LoopN (p : Prop) : Prop where
  out : p
/-- A region that draws its order, as it stands. -/
structure DrawN (id : Nat) (ops : Array Oper) (tm : List SV) (H : List HE) (K : List SV → List HE → Prop) : Prop where
  out : ∀ ρ a w, Rel w0 U ρ tm H a w → (Code.region id ops true).wp P (fun e a' w' => e = .normal ∧ ∃ ρ' tm' H', Rel w0 U ρ' tm' H' a' w' ∧ (Same H.length ρ ρ' ∧ H.length ≤ H'.length) ∧ K tm' H') a w
/-- A part of the text with what is behind it: as it stands, or what is behind it is walked once, as whoever walks tells the state there. -/
inductive CutN (id m : Nat) (tm : List SV) (H : List HE) (F : (List SV → List HE → Prop) → Prop) (Kn : List SV → List HE → Prop) : Prop where
  | plain (h : F Kn)
  | cut (h : ∃ (α : Type) (inv : α → Prop) (st : α → List SV) (sh : α → List HE), F (fun tm' H' => ∃ y, inv y ∧ Less m tm' H' (st y) (sh y)) ∧ ∀ y, inv y → Kn (st y) (sh y))
abbrev CK := List SV → List HE → (List SV → List HE → Prop) → (Nat → List SV → List HE → Prop) → (List SV → List HE → Prop) → Prop
def cSkip : CK := fun tm H Kn _ _ => Kn tm H
def cRegion (id : Nat) (ops : Array Oper) (draw : Bool) : CK := fun tm H Kn _ _ => match draw with
  | false => xOps P w0 U T ops ops.toList tm H Kn
  | true => match ops.toList.all (fun o => quietOp o.op) with
    | true => QuiD (Region.lexB .any ops = true) (xQui P w0 U T ops H ops.toList tm fun tm' => Kn tm' H) (DrawN P w0 U id ops tm H Kn)
    | false => DrawN P w0 U id ops tm H Kn
def cSeq (iha ihb : CK) : CK := fun tm H Kn Ke Kr => iha tm H (fun tm' H' => ihb tm' H' Kn Ke Kr) Ke Kr
def condId (c : Operand) : Nat := match c with
  | .tmp t => t + 1000
  | _ => 0
def cCond (m : Nat) (c : Operand) (iht ihe : CK) : CK := fun tm H Kn Ke Kr => match opd tm c with
  | .kb true => iht tm H Kn Ke Kr
  | .kb false => ihe tm H Kn Ke Kr
  | .v (.bool b) => CutN (condId c) m tm H (fun Kn => Br b (iht tm H Kn Ke Kr) (ihe tm H Kn Ke Kr)) Kn
  | _ => False
def cBlock (m id : Nat) (ih : CK) : CK := fun tm H Kn Ke Kr => CutN id m tm H (fun Kn => ih tm H Kn (fun i tm' H' => match Nat.beq i id with | true => Kn tm' H' | false => Ke i tm' H') Kr) Kn
def cLoop (m : Nat) (ih : CK) : CK := fun tm H _ Ke Kr => LoopN (∃ (α : Type) (inv : α → Prop) (μ : α → Nat) (st : α → List SV) (sh : α → List HE),
  (∃ x, inv x ∧ Less m tm H (st x) (sh x)) ∧
  ∀ x, inv x → forceL (st x) fun tm1 => forceH (sh x) fun H1 => ih tm1 H1 (fun tm' H' => ∃ y, inv y ∧ μ y < μ x ∧ Less m tm' H' (st y) (sh y)) Ke Kr)
def cExit (id : Nat) : CK := fun tm H _ Ke _ => Ke id tm H
def cRet : CK := fun tm H _ _ Kr => Kr tm H
def cNo : CK := fun _ _ _ _ _ => False
def xCode (m : Nat) (c : Code) : CK :=
  @Code.rec (fun _ => CK) cSkip (cRegion P w0 U T) (fun _ _ iha ihb => cSeq iha ihb) (fun c _ _ iht ihe => cCond m c iht ihe) (fun id _ ih => cBlock m id ih) (fun _ ih => cLoop m ih)
    (fun _ _ _ _ _ _ => cNo) cExit (fun _ _ => cNo) (fun _ => cNo) (fun _ => cNo) cRet (fun _ => cNo) c
def resOne (tm : List SV) (H : List HE) (r : ResultVar) (K : SV → Prop) : Prop := match r with
  | .tmp t => nj (getS tm t) K
  | .cell a t => loadK T H t (getS tm a) K
def resCons (tm : List SV) (H : List HE) (r : ResultVar) (ih : (List SV → Prop) → Prop) (K : List SV → Prop) : Prop := resOne T tm H r fun s => ih fun ss => K (s :: ss)
def xRes (tm : List SV) (H : List HE) (l : List ResultVar) : (List SV → Prop) → Prop :=
  @List.rec ResultVar (fun _ => (List SV → Prop) → Prop) (fun K => K []) (fun r _ ih => resCons T tm H r ih) l
def xRet (rs : Array ResultVar) (tm : List SV) (H : List HE) (K : SV → Prop) : Prop := xRes T tm H rs.toList fun ss => match ss with
  | [s] => K s
  | ss => K (.tup ss)
end
end Go.Proofs.YtghfigeepnbjaaaGreat
