/-
  Symbolic values and the memory that they speak of. No condition.
-/
import Derived.Test.YtlphkjbadjdleaaMem
import Derived.Test.YtlphkjbadjdleaaFr
import Derived.Deep.Quiet
import Derived.Laws.Cells
import Derived.Laws.CopyRow
import Derived.Conc.MuLone
import Derived.ChangeKeysEq
import Derived.Shelf.Abstract
import Derived.Deep.AppendLies
namespace Go.Proofs.Ytlphkjbadjdleaa

/-- A value, with the blocks named by small numbers. -/
inductive SV where
  | junk
  | v (x : Value)
  | kb (b : Bool)
  | p (i off : Nat)
  | s (i off len cap : Nat)
  | rp (i sz r c : Nat)
  | rs (i n cap : Nat)
  | os (i n : Nat)
  | ov (i sz lo n : Nat)
  | m (i : Nat)
  | fn (f : Fn) (caps : List (Nat × Nat))
  | agg (cs : List SV)
  | tup (vs : List SV)

abbrev Loc := Nat → Option Addr
def atB (ρ : Loc) (i off : Nat) : Option Addr := (ρ i).map fun a => ⟨a.block, off, none⟩
def atR (ρ : Loc) (i off : Nat) : Option Addr := (ρ i).map fun a => ⟨a.block, a.off + off, none⟩
def atB' (ρ : Loc) (i : Nat) : Option Addr := (ρ i).map fun a => ⟨a.block, a.off, none⟩
def capB (ρ : Loc) (i : Nat) : Nat := ((ρ i).bind (·.spot)).getD 0
def ovX (x : Option Addr) (lo sz : Nat) : Option Addr := if (x.bind (·.spot)).getD 0 = lo then x.map fun a => ⟨a.block, a.off, none⟩ else x.map fun a => ⟨a.block, a.off + lo * sz, none⟩
def mapV (ρ : Loc) (i : Nat) : Value := .map ((ρ i).map (·.block))
def capV (ρ : Loc) (q : Nat × Nat) : Value := .pointer (atB ρ q.1 q.2)

mutual
def SV.den (ρ : Loc) : SV → Value
  | .junk => undef
  | .v x => x
  | .kb b => .bool b
  | .p i off => .pointer (atB ρ i off)
  | .s i off len cap => .slice (atB ρ i off) len cap
  | .rp i sz r c => .pointer (atR ρ i (r * sz + c))
  | .rs i n cap => .slice (ρ i) n cap
  | .os i n => .slice (atB' ρ i) n (capB ρ i)
  | .ov i sz lo n => .slice (ovX (ρ i) lo sz) n (capB ρ i - lo)
  | .m i => mapV ρ i
  | .fn f caps => .func f #[] (caps.map (capV ρ)).toArray
  | .agg cs => .agg (SV.denL ρ cs).toArray
  | .tup vs => .tuple (SV.denL ρ vs).toArray
def SV.denL (ρ : Loc) : List SV → List Value
  | [] => []
  | c :: cs => c.den ρ :: SV.denL ρ cs
end
mutual
/-- Every block that is named is below this number. -/
def SV.bdd (n : Nat) : SV → Bool
  | .junk => true
  | .v _ => true
  | .kb _ => true
  | .p i _ => Nat.blt i n
  | .s i _ _ _ => Nat.blt i n
  | .rp i _ _ _ => Nat.blt i n
  | .rs i _ _ => Nat.blt i n
  | .os i _ => Nat.blt i n
  | .ov i _ _ _ => Nat.blt i n
  | .m i => Nat.blt i n
  | .fn _ caps => caps.all fun q => Nat.blt q.1 n
  | .agg cs => SV.bddL n cs
  | .tup vs => SV.bddL n vs
def SV.bddL (n : Nat) : List SV → Bool
  | [] => true
  | c :: cs => c.bdd n && SV.bddL n cs
end
theorem denL_eq (ρ : Loc) : ∀ cs, SV.denL ρ cs = cs.map (SV.den ρ)
  | [] => by simp [SV.denL]
  | c :: cs => by simp [SV.denL, denL_eq ρ cs]
/-- Two valuations that are the same below a number. -/
def Same (n : Nat) (ρ ρ' : Loc) : Prop := ∀ i, i < n → ρ' i = ρ i
theorem Same.refl (n : Nat) (ρ : Loc) : Same n ρ ρ := fun _ _ => rfl
theorem Same.trans {n m : Nat} {ρ ρ' ρ'' : Loc} (h : Same n ρ ρ') (k : Same m ρ' ρ'') (hm : n ≤ m) : Same n ρ ρ'' := fun i hi => (k i (Nat.lt_of_lt_of_le hi hm)).trans (h i hi)
theorem Same.mono {n m : Nat} {ρ ρ' : Loc} (h : Same m ρ ρ') (hm : n ≤ m) : Same n ρ ρ' := fun i hi => h i (Nat.lt_of_lt_of_le hi hm)
theorem Same.symm {n : Nat} {ρ ρ' : Loc} (h : Same n ρ ρ') : Same n ρ' ρ := fun i hi => (h i hi).symm
mutual
theorem den_same {n : Nat} {ρ ρ' : Loc} (h : Same n ρ ρ') : ∀ s : SV, s.bdd n = true → s.den ρ' = s.den ρ
  | .junk, _ => rfl
  | .v _, _ => rfl
  | .kb _, _ => rfl
  | .p i off, hb => by simp only [SV.bdd, Nat.blt_eq] at hb; simp only [SV.den, atB, h i hb]
  | .s i off len cap, hb => by simp only [SV.bdd, Nat.blt_eq] at hb; simp only [SV.den, atB, h i hb]
  | .rp i sz r c, hb => by simp only [SV.bdd, Nat.blt_eq] at hb; simp only [SV.den, atR, h i hb]
  | .rs i n cap, hb => by simp only [SV.bdd, Nat.blt_eq] at hb; simp only [SV.den, h i hb]
  | .os i n, hb => by simp only [SV.bdd, Nat.blt_eq] at hb; simp only [SV.den, atB', capB, h i hb]
  | .ov i sz lo n, hb => by simp only [SV.bdd, Nat.blt_eq] at hb; simp only [SV.den, capB, h i hb]
  | .m i, hb => by simp only [SV.bdd, Nat.blt_eq] at hb; simp only [SV.den, mapV, h i hb]
  | .fn f caps, hb => by
    simp only [SV.bdd, List.all_eq_true] at hb
    simp only [SV.den]
    congr 2
    refine List.map_congr_left fun q hq => ?_
    have hq := hb q hq
    simp only [Nat.blt_eq] at hq
    simp only [capV, atB, h _ hq]
  | .agg cs, hb => by simp only [SV.bdd] at hb; simp only [SV.den, denL_same h cs hb]
  | .tup vs, hb => by simp only [SV.bdd] at hb; simp only [SV.den, denL_same h vs hb]
theorem denL_same {n : Nat} {ρ ρ' : Loc} (h : Same n ρ ρ') : ∀ cs : List SV, SV.bddL n cs = true → SV.denL ρ' cs = SV.denL ρ cs
  | [], _ => rfl
  | c :: cs, hb => by simp only [SV.bddL, Bool.and_eq_true] at hb; simp only [SV.denL, den_same h c hb.1, denL_same h cs hb.2]
end

/-- Two cells of one kind. -/
def sameKind : Value → Value → Bool
  | .int k _, .int k' _ => k == k'
  | .bool _, .bool _ => true
  | .string _, .string _ => true
  | _, _ => false
def sameKinds : List Value → List Value → Bool
  | [], [] => true
  | z :: zs, x :: xs => sameKind z x && sameKinds zs xs
  | _, _ => false
/-- A key of a map: a cell of a kind, or cells of kinds. -/
def keyOK (ag : Bool) (zk : List Value) (v : Value) : Bool := match ag, v with
  | true, .agg ⟨xs⟩ => sameKinds zk xs
  | true, _ => false
  | false, v => sameKinds zk [v]
/-- What is known of a block: nothing; all its cells; that it holds n rows of sz cells from a place on; a slice of one's own; a map's entries, in order; anything about some blocks; a block with a map in it that nothing else leads to. -/
inductive HE where
  | none
  | blk (ty : TypeId) (cs : List SV)
  | row (sz n : Nat) (f : Nat → Nat → Value)
  | own (ty : TypeId) (sz n : Nat) (f : Nat → Nat → Value)
  | mp (ag : Bool) (zk : List Value) (es : List (Value × Value)) (st : Option (Array MapEntry × Nat))
  | res (wr : Bool) (Z : Nat → Prop) (Q : World → Prop)
  | obj1 (ty : TypeId) (pre post : List Value) (ag : Bool) (zk : List Value) (es : List (Value × Value))
/-- The cells of n rows, one after the other. -/
def cellsF (sz : Nat) (f : Nat → Nat → Value) : Nat → List Value
  | 0 => []
  | n + 1 => cellsF sz f n ++ (List.range sz).map (f n)
/-- A map's object: its entries, in order. -/
structure MapIs (w : World) (r : Nat) (ag : Bool) (zk : List Value) (es : List (Value × Value)) (st : Option (Array MapEntry × Nat)) : Prop where
  out : ∃ (ents : Array MapEntry) (clock : Nat), w.heap[r]? = some (.map ents clock) ∧ ents.toList.map (fun e => (e.key, e.val)) = es ∧ (∀ e ∈ ents.toList, e.born < clock) ∧ (ents.toList.map (·.born)).Nodup ∧ ∀ x, st = some x → x = (ents, clock)
  keys : ∀ p ∈ es, keyOK ag zk p.1 = true
  nodup : (es.map (·.1)).Nodup
def HE.ok (ρ : Loc) (w : World) (i : Nat) : HE → Prop
  | .none => True
  | .blk ty cs => ∃ b, ρ i = some ⟨b, 0, Option.none⟩ ∧ Blk w b ty (SV.denL ρ cs).toArray
  | .row sz n f => 0 < n → ∃ b off, ρ i = some ⟨b, off, Option.none⟩ ∧ b < w.heap.size ∧ ∀ r c, r < n → c < sz → w.cell? ⟨b, off + r * sz + c, Option.none⟩ = some (f r c)
  | .own ty sz n f => w.ownsRow 0 ty sz ((SV.os i n).den ρ) n (cellsF sz f n)
  | .mp ag zk es st => ∃ r, ρ i = some ⟨r, 0, Option.none⟩ ∧ MapIs w r ag zk es st
  | .obj1 ty pre post ag zk es => ∃ sb mb, ρ i = some ⟨sb, mb, Option.none⟩ ∧ sb ≠ mb ∧ Blk w sb ty (pre ++ [Value.map (some mb)] ++ post).toArray ∧ MapIs w mb ag zk es Option.none
  | .res _ Z Q => Q w ∧ (∀ b, Z b → b < w.heap.size) ∧ ∀ w1 w2 : World, (∀ b, Z b → w2.heap[b]? = w1.heap[b]?) → Q w1 → Q w2
def HE.live : HE → Prop
  | .none => False
  | .blk _ _ => True
  | .row _ n _ => 0 < n
  | .own _ _ _ _ => True
  | .mp _ _ _ _ => True
  | .obj1 _ _ _ _ _ _ => True
  | .res _ _ _ => True
/-- One that may be written. -/
def HE.wr : HE → Prop
  | .none => False
  | .blk _ _ => True
  | .row _ _ _ => False
  | .own _ _ _ _ => True
  | .mp _ _ _ _ => True
  | .obj1 _ _ _ _ _ _ => True
  | .res w _ _ => w = true
/-- The blocks that it speaks of. -/
def HE.foot (ρ : Loc) (i : Nat) : HE → Nat → Prop
  | .none, _ => False
  | .res _ Z _, b => Z b
  | .blk _ _, b => ∃ a, ρ i = some a ∧ a.block = b
  | .row _ _ _, b => ∃ a, ρ i = some a ∧ a.block = b
  | .own _ _ _ _, b => ∃ a, ρ i = some a ∧ a.block = b
  | .mp _ _ _ _, b => ∃ a, ρ i = some a ∧ a.block = b
  | .obj1 _ _ _ _ _ _, b => ∃ a, ρ i = some a ∧ (a.block = b ∨ a.off = b)
/-- One that is told by its name. -/
def HE.nam : HE → Prop
  | .none => False
  | .res _ _ _ => False
  | .obj1 _ _ _ _ _ _ => False
  | _ => True
theorem HE.foot_nam {ρ : Loc} {i : Nat} {e : HE} (h : e.nam) {b : Nat} : e.foot ρ i b ↔ ∃ a, ρ i = some a ∧ a.block = b := by cases e <;> first | exact h.elim | exact Iff.rfl
theorem HE.foot_congr {ρ ρ' : Loc} {i : Nat} (h : ρ' i = ρ i) (e : HE) {b : Nat} : e.foot ρ' i b ↔ e.foot ρ i b := by
  cases e <;> simp only [HE.foot, h]
theorem HE.wr_live {e : HE} (h : e.wr) : e.live := by cases e <;> first | exact h.elim | trivial
def HE.bdd (n : Nat) : HE → Bool
  | .none => true
  | .blk _ cs => SV.bddL n cs
  | .row _ _ _ => true
  | .own _ _ _ _ => true
  | .mp _ _ _ _ => true
  | .obj1 _ _ _ _ _ _ => true
  | .res _ _ _ => true

/-- The memory is as it is said to be; since the world w0 only the blocks of U were written, of those that were. -/
structure HOk (w0 : World) (U : Nat → Prop) (ρ : Loc) (H : List HE) (w : World) : Prop where
  ent : ∀ (i : Nat) (e : HE), H[i]? = some e → e.ok ρ w i
  own : ∀ (i : Nat) (e : HE), H[i]? = some e → e.wr → ∀ b : Nat, e.foot ρ i b → w0.heap.size ≤ b ∨ U b
  dis : ∀ (i j : Nat) (d e : HE), i ≠ j → H[i]? = some d → d.wr → H[j]? = some e → e.live → ∀ b : Nat, d.foot ρ i b → ¬ e.foot ρ j b
  fr : Fr U w0 w
/-- The same, whatever the blocks are called that are not named. -/
def HRel (w0 : World) (U : Nat → Prop) (ρ : Loc) (H : List HE) (w : World) : Prop := ∀ ρ', Same H.length ρ ρ' → HOk w0 U ρ' H w
def TmOk (ρ : Loc) (tm : List SV) (ts : Array Value) : Prop := ts.size = tm.length ∧ ∀ (i : Nat) (sv : SV), tm[i]? = some sv → sv ≠ SV.junk → ts[i]? = some (sv.den ρ)
def Rel (w0 : World) (U : Nat → Prop) (ρ : Loc) (tm : List SV) (H : List HE) (a : Act) (w : World) : Prop :=
  a.defers = [] ∧ ∀ ρ', Same H.length ρ ρ' → TmOk ρ' tm a.tmps ∧ HOk w0 U ρ' H w

theorem Rel.h {w0 : World} {U : Nat → Prop} {ρ : Loc} {tm : List SV} {H : List HE} {a : Act} {w : World} (h : Rel w0 U ρ tm H a w) : HRel w0 U ρ H w := fun ρ' hs => (h.2 ρ' hs).2

theorem MapIs.same {w w' : World} {r : Nat} {ag : Bool} {zk : List Value} {es : List (Value × Value)} {st : Option (Array MapEntry × Nat)} (h : MapIs w r ag zk es st) (hg : w'.heap[r]? = w.heap[r]?) : MapIs w' r ag zk es st := by
  obtain ⟨⟨ents, clock, h1, h2⟩, h3, h4⟩ := h
  exact ⟨⟨ents, clock, hg.trans h1, h2⟩, h3, h4⟩
theorem MapIs.lt {w : World} {r : Nat} {ag : Bool} {zk : List Value} {es : List (Value × Value)} {st : Option (Array MapEntry × Nat)} (h : MapIs w r ag zk es st) : r < w.heap.size := by
  obtain ⟨⟨ents, clock, h1, _⟩, _⟩ := h
  exact (Array.getElem?_eq_some_iff.1 h1).1
theorem HE.ok_lt {ρ : Loc} {w : World} {i : Nat} {e : HE} (h : e.ok ρ w i) (hl : e.live) {b : Nat} (hb : e.foot ρ i b) : b < w.heap.size := by
  cases e with
  | none => exact hl.elim
  | blk ty cs =>
    obtain ⟨b', h1, hk⟩ := h
    obtain ⟨a, ha, rfl⟩ := hb
    rw [h1] at ha; cases ha
    exact hk.lt
  | row sz n f =>
    obtain ⟨b', off, h1, hlt, _⟩ := h hl
    obtain ⟨a, ha, rfl⟩ := hb
    rw [h1] at ha; cases ha
    exact hlt
  | own ty sz n f =>
    obtain ⟨a, ha, rfl⟩ := hb
    obtain ⟨_, ⟨hv, _⟩ | ⟨g, cap, cur, hv, _, hk, _⟩⟩ := h
    · simp only [SV.den, atB', ha, Option.map_some] at hv; cases hv
    · simp only [SV.den, atB', ha, Option.map_some] at hv
      injection hv with hv _ _
      injection hv with hv
      injection hv with hv
      rw [hv]
      exact Blk.lt (t := ty) (cs := cur) hk
  | mp ag zk es st =>
    obtain ⟨r, h1, hk⟩ := h
    obtain ⟨a, ha, rfl⟩ := hb
    rw [h1] at ha; cases ha
    exact hk.lt
  | obj1 ty pre post ag zk es =>
    obtain ⟨sb, mb, h1, _, h2, h3⟩ := h
    obtain ⟨a, ha, hab⟩ := hb
    rw [h1] at ha; cases ha
    rcases hab with rfl | rfl
    · exact h2.lt
    · exact h3.lt
  | res wr Z Q => exact h.2.1 b hb
theorem HE.ok_grown {ρ : Loc} {w w' : World} {i : Nat} {e : HE} {row : Option Nat} (h : e.ok ρ w i) (hg : w.grownBy w' row) (hr : e.live → ∀ b, e.foot ρ i b → some b ≠ row) : e.ok ρ w' i := by
  cases e with
  | none => trivial
  | blk ty cs =>
    obtain ⟨b, hb, hk⟩ := h
    exact ⟨b, hb, hk.grown hg (hr trivial _ ⟨_, hb, rfl⟩)⟩
  | row sz n f =>
    intro hn
    obtain ⟨b, off, hb, hlt, hc⟩ := h hn
    refine ⟨b, off, hb, Nat.lt_of_lt_of_le hlt hg.size, fun r c hr' hc' => ?_⟩
    rw [← hc r c hr' hc']
    exact World.cell?_of_block (w := w) (hg.block b hlt (hr hn _ ⟨_, hb, rfl⟩))
  | own ty sz n f =>
    obtain ⟨hl, h⟩ := h
    refine ⟨hl, ?_⟩
    rcases h with h | ⟨g, cap, cur, hv, hb, hk, hc⟩
    · exact .inl h
    · refine .inr ⟨g, cap, cur, hv, hb, ?_, hc⟩
      have hlt : g < w.heap.size := Blk.lt (t := ty) (cs := cur) hk
      rw [hg.block g hlt ?_]
      · exact hk
      · simp only [SV.den, atB'] at hv
        injection hv with hv _ _
        obtain ⟨a, ha, hae⟩ := Option.map_eq_some_iff.1 hv
        have := hr trivial a.block ⟨a, ha, rfl⟩
        injection hae with hae
        rwa [hae] at this
  | mp ag zk es st =>
    obtain ⟨r, h1, hk⟩ := h
    exact ⟨r, h1, hk.same (hg.block r hk.lt (hr trivial _ ⟨_, h1, rfl⟩))⟩
  | obj1 ty pre post ag zk es =>
    obtain ⟨sb, mb, h1, h0, h2, h3⟩ := h
    exact ⟨sb, mb, h1, h0, h2.grown hg (hr trivial _ ⟨_, h1, .inl rfl⟩), h3.same (hg.block mb h3.lt (hr trivial _ ⟨_, h1, .inr rfl⟩))⟩
  | res wr Z Q =>
    obtain ⟨h1, h2, h3⟩ := h
    exact ⟨h3 w w' (fun b hb => hg.block b (h2 b hb) (hr trivial b hb)) h1, fun b hb => Nat.lt_of_lt_of_le (h2 b hb) hg.size, h3⟩
theorem HE.ok_drew {ρ : Loc} {w : World} {i : Nat} {e : HE} (h : e.ok ρ w i) : e.ok ρ w.drew i := by
  cases e with
  | none => trivial
  | blk ty cs => exact h
  | row sz n f => exact h
  | own ty sz n f => exact h
  | mp ag zk es st => obtain ⟨r, h1, h2⟩ := h; exact ⟨r, h1, h2.same rfl⟩
  | obj1 ty pre post ag zk es => obtain ⟨sb, mb, h1, h0, h2, h3⟩ := h; exact ⟨sb, mb, h1, h0, h2, h3.same rfl⟩
  | res wr Z Q => exact ⟨h.2.2 w w.drew (fun _ _ => rfl) h.1, h.2.1, h.2.2⟩
theorem HOk.grown0 {w0 : World} {U : Nat → Prop} {ρ : Loc} {H : List HE} {w w' : World} (h : HOk w0 U ρ H w) (hg : w.grownBy w' none) : HOk w0 U ρ H w' :=
  ⟨fun i e he => HE.ok_grown (h.ent i e he) hg (fun _ _ _ => by simp), h.own, h.dis, h.fr.grown0 hg⟩
theorem HRel.grown0 {w0 : World} {U : Nat → Prop} {ρ : Loc} {H : List HE} {w w' : World} (h : HRel w0 U ρ H w) (hg : w.grownBy w' none) : HRel w0 U ρ H w' := fun ρ' hs => (h ρ' hs).grown0 hg
theorem HOk.drew {w0 : World} {U : Nat → Prop} {ρ : Loc} {H : List HE} {w : World} (h : HOk w0 U ρ H w) : HOk w0 U ρ H w.drew := ⟨fun i e he => HE.ok_drew (h.ent i e he), h.own, h.dis, h.fr.drew⟩

/-- The block of an address that is known. -/
theorem HOk.blk {w0 : World} {U : Nat → Prop} {ρ : Loc} {H : List HE} {w : World} (h : HOk w0 U ρ H w) {i : Nat} {ty : TypeId} {cs : List SV} (hi : H[i]? = some (.blk ty cs)) :
    ∃ b, ρ i = some ⟨b, 0, none⟩ ∧ Blk w b ty (SV.denL ρ cs).toArray := h.ent i _ hi

def upd (ρ : Loc) (n : Nat) (a : Addr) : Loc := fun k => if k = n then some a else ρ k
theorem upd_same (ρ : Loc) (n : Nat) (a : Addr) : Same n ρ (upd ρ n a) := fun i hi => by simp [upd, Nat.ne_of_lt hi]

/-- A new block. -/
theorem HOk.alloc {w0 : World} {U : Nat → Prop} {ρ : Loc} {H : List HE} {w : World} (h : HOk w0 U ρ H w) (ty : TypeId) (cs : List SV) (hρ : ρ H.length = some ⟨w.heap.size, 0, none⟩) :
    HOk w0 U ρ (H ++ [.blk ty cs]) (w.alloc (.cells (SV.denL ρ cs).toArray ty)) := by
  have hlen : ∀ i e, H[i]? = some e → i < H.length := fun i e hi => (List.getElem?_eq_some_iff.1 hi).1
  have key : ∀ i e, (H ++ [HE.blk ty cs])[i]? = some e → (H[i]? = some e) ∨ (i = H.length ∧ e = .blk ty cs) := fun i e hi => by
    rw [List.getElem?_append] at hi
    split at hi
    · exact .inl hi
    · rename_i hlt
      right
      by_cases h0 : i - H.length = 0
      · simp only [h0, List.getElem?_cons_zero, Option.some.injEq] at hi
        exact ⟨by omega, hi.symm⟩
      · obtain ⟨k, hk⟩ : ∃ k, i - H.length = k + 1 := ⟨i - H.length - 1, by omega⟩
        rw [hk] at hi
        simp at hi
  have le : w0.heap.size ≤ w.heap.size := h.fr.size
  have nf : ∀ b, (HE.blk ty cs).foot ρ H.length b → b = w.heap.size := fun b ⟨a, ha, hb⟩ => by rw [hρ] at ha; cases ha; exact hb.symm
  refine ⟨fun i e hi => ?_, fun i e hi hw b hb => ?_, fun i j d e hij hi hd hj hl b ha hb => ?_, h.fr.alloc _⟩
  · rcases key i e hi with hi | ⟨rfl, rfl⟩
    · exact HE.ok_grown (h.ent i e hi) (only_alloc (only_refl _ none) _) (fun _ _ _ => by simp)
    · exact ⟨_, hρ, Blk.new _ _ _⟩
  · rcases key i _ hi with hi | ⟨rfl, rfl⟩
    · exact h.own i _ hi hw b hb
    · rw [nf b hb]; exact .inl le
  · rcases key i _ hi with hi | ⟨rfl, rfl⟩ <;> rcases key j _ hj with hj | ⟨rfl, rfl⟩
    · exact h.dis i j _ _ hij hi hd hj hl b ha hb
    · have := HE.ok_lt (h.ent i _ hi) (HE.wr_live hd) ha
      rw [nf b hb] at this
      exact absurd this (Nat.lt_irrefl _)
    · have := HE.ok_lt (h.ent j _ hj) hl hb
      rw [nf b ha] at this
      exact absurd this (Nat.lt_irrefl _)
    · exact absurd rfl hij

theorem denL_length (ρ : Loc) (cs : List SV) : (SV.denL ρ cs).length = cs.length := by rw [denL_eq]; simp
theorem denL_get (ρ : Loc) (cs : List SV) (i : Nat) : (SV.denL ρ cs)[i]? = (cs[i]?).map (SV.den ρ) := by rw [denL_eq]; simp

/-- A block that is written: what it holds is another thing. -/
theorem HOk.write {w0 : World} {U : Nat → Prop} {ρ : Loc} {H : List HE} {w w' : World} (h : HOk w0 U ρ H w) {i : Nat} {d d' : HE} (hi : H[i]? = some d) (hd : d.wr) (hn : d.nam) (hn' : d'.nam) {a : Addr} (hb : ρ i = some a)
    (hw : d'.ok ρ w' i) (hg : w.grownBy w' (some a.block)) : HOk w0 U ρ (H.set i d') w' := by
  have key : ∀ j e, (H.set i d')[j]? = some e → (j ≠ i ∧ H[j]? = some e) ∨ (j = i ∧ e = d') := fun j e hj => by
    rw [List.getElem?_set] at hj
    split at hj
    · rename_i hij; subst hij
      split at hj
      · exact .inr ⟨rfl, by simpa using hj.symm⟩
      · cases hj
    · rename_i hij; exact .inl ⟨fun h => hij h.symm, hj⟩
  have fd : ∀ b, d'.foot ρ i b → d.foot ρ i b := fun b h => (HE.foot_nam hn).2 ((HE.foot_nam hn').1 h)
  have hda : d.foot ρ i a.block := (HE.foot_nam hn).2 ⟨a, hb, rfl⟩
  refine ⟨fun j e hj => ?_, fun j e hj he b hb' => ?_, fun j k d1 e1 hjk hj he1 hk hl b ha hb' => ?_, ?_⟩
  · rcases key j e hj with ⟨hne, hj'⟩ | ⟨rfl, rfl⟩
    · refine HE.ok_grown (h.ent j e hj') hg (fun hl b hb' => ?_)
      have := h.dis i j d e (Ne.symm hne) hi hd hj' hl a.block hda
      intro hc
      cases hc
      exact this hb'
    · exact hw
  · rcases key j _ hj with ⟨hne, hj'⟩ | ⟨hji, hde⟩
    · exact h.own j _ hj' he b hb'
    · subst hji; subst hde
      exact h.own j _ hi hd b (fd b hb')
  · rcases key j _ hj with ⟨hne, hj'⟩ | ⟨hji, hde⟩ <;> rcases key k _ hk with ⟨hne', hk'⟩ | ⟨hki, hee⟩
    · exact h.dis j k _ _ hjk hj' he1 hk' hl b ha hb'
    · subst hki; subst hee
      exact h.dis j k _ _ hjk hj' he1 hi (HE.wr_live hd) b ha (fd b hb')
    · subst hji; subst hde
      exact h.dis j k _ _ hjk hi hd hk' hl b (fd b ha) hb'
    · exact absurd (hji.trans hki.symm) hjk
  · exact h.fr.grown1 hg (h.own i _ hi hd _ hda)
end Go.Proofs.Ytlphkjbadjdleaa
