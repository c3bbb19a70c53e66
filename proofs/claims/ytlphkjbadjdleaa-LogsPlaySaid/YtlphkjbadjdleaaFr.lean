/-
  What a call may have changed: a set of blocks. No condition.
-/
import Derived.Test.YtlphkjbadjdleaaMem2
namespace Go.Proofs.Ytlphkjbadjdleaa
open Go.RowKit
/-- Of what there was, the blocks of T alone may have turned. -/
structure Fr (T : Nat → Prop) (w w' : World) : Prop where
  os : w'.os = w.os
  tape : w'.tape = w.tape
  output : w'.output = w.output
  size : w.heap.size ≤ w'.heap.size
  block : ∀ k, k < w.heap.size → ¬ T k → w'.heap[k]? = w.heap[k]?
section
variable {T : Nat → Prop} {a w w' : World}
theorem Fr.refl (T : Nat → Prop) (w : World) : Fr T w w := ⟨rfl, rfl, rfl, Nat.le_refl _, fun _ _ _ => rfl⟩
theorem Fr.trans (h : Fr T a w) (k : Fr T w w') : Fr T a w' :=
  ⟨k.os.trans h.os, k.tape.trans h.tape, k.output.trans h.output, Nat.le_trans h.size k.size, fun i hi hn => (k.block i (Nat.lt_of_lt_of_le hi h.size) hn).trans (h.block i hi hn)⟩
theorem Fr.mono {U : Nat → Prop} (h : Fr T a w) (hu : ∀ k, k < a.heap.size → T k → U k) : Fr U a w := ⟨h.os, h.tape, h.output, h.size, fun i hi hn => h.block i hi fun ht => hn (hu i hi ht)⟩
theorem Fr.drew (h : Fr T a w) : Fr T a w.drew := ⟨h.os, h.tape, h.output, h.size, h.block⟩
theorem Fr.drewN (h : Fr T a w) (n : Nat) : Fr T a (w.drewN n) := ⟨h.os, h.tape, h.output, h.size, h.block⟩
theorem Fr.alloc (h : Fr T a w) (o : Obj) : Fr T a (w.alloc o) :=
  ⟨h.os, h.tape, h.output, Nat.le_trans h.size (by simp), fun i hi hn => (Below.heap_alloc w o i (Nat.lt_of_lt_of_le hi h.size)).trans (h.block i hi hn)⟩
theorem Fr.setCell (h : Fr T a w) {p : Addr} (hp : a.heap.size ≤ p.block ∨ T p.block) (u : Value) : Fr T a (w.setCell p u) :=
  ⟨h.os, h.tape, h.output, by simpa [World.setCell] using h.size, fun i hi hn => (Below.heap_setCell w p u i (by
    rintro rfl
    rcases hp with hp | hp
    · omega
    · exact hn hp)).trans (h.block i hi hn)⟩
theorem Fr.grown {row : Option Nat} (h : Fr T a w) (hg : w.grownBy w' row) (hr : ∀ k, row = some k → a.heap.size ≤ k ∨ T k) : Fr T a w' :=
  ⟨hg.os.trans h.os, hg.tape.trans h.tape, hg.output.trans h.output, Nat.le_trans h.size hg.size, fun i hi hn => (hg.block i (Nat.lt_of_lt_of_le hi h.size) fun e => by
    rcases hr i e.symm with h1 | h1
    · omega
    · exact hn h1).trans (h.block i hi hn)⟩
theorem Fr.grown0 (h : Fr T a w) (hg : w.grownBy w' none) : Fr T a w' := h.grown hg (fun k hk => by cases hk)
theorem Fr.grown1 {g : Nat} (h : Fr T a w) (hg : w.grownBy w' (some g)) (hr : a.heap.size ≤ g ∨ T g) : Fr T a w' := h.grown hg (fun k hk => by cases hk; exact hr)
theorem Blk.fr {g : Nat} {t : TypeId} {cs : Array Value} (h : Blk w g t cs) (hf : Fr T w w') (hn : ¬ T g) : Blk w' g t cs := (hf.block g h.lt hn).trans h
theorem Fr.cell {p : Addr} (h : Fr T w w') (hp : p.block < w.heap.size) (hn : ¬ T p.block) : w'.cell? p = w.cell? p := World.cell?_of_block (w := w) (h.block p.block hp hn)
/-- A call inside a law: everything of it lies from B on. -/
theorem Fr.below {B : Nat} (hb : Below B a w) (h : Fr T w w') (hT : ∀ k, T k → B ≤ k) (hB : B ≤ w.heap.size) : Below B a w' :=
  hb.trans ⟨h.os, h.tape, h.output, h.size, fun k hk => h.block k (Nat.lt_of_lt_of_le hk hB) fun ht => by have := hT k ht; omega⟩
end
end Go.Proofs.Ytlphkjbadjdleaa
