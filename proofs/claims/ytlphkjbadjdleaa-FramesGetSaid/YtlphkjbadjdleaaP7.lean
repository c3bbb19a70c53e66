/-
  A text as a value. The operations: Check (the program's). How an argument reads, cell by cell, whatever its type (integers, bools, texts, structs, arrays, slices). Rows that come in, as lists of whatever says their cells. A chain as a value; are two the same? What keys have, and what operations do: plain lists. No program in sight, no condition. A frame, and what is sent: as values. No program in sight but for types, no condition. The walks over the document's operations (Check), and the law's Great. No condition.
-/
import Derived.Test.YtlphkjbadjdleaaP1
import Derived.Test.YtlphkjbadjdleaaProg
import Derived.WalkKit
import Derived.WalkSpells
import Derived.WalkLawsBesides
import Derived.Deep.QuietTactic
import Derived.BigQuiet
import Derived.Deep.Light
import Derived.Deep.RegionHeld3
import Derived.ProofKit
import Derived.Deep.Slices
import Derived.OpenShut
import Derived.Test.YtlphkjbadjdleaaP5
namespace Go.Proofs.Ytlphkjbadjdleaa
abbrev S (l : List UInt8) : Value := .string ⟨l.toArray⟩
theorem toS (s : ByteArray) : ∃ l : List UInt8, s = ⟨l.toArray⟩ ∧ l.length = s.size := ⟨s.data.toList, rfl, rfl⟩
end Go.Proofs.Ytlphkjbadjdleaa
namespace Go.Proofs.Ytlphkjbadjdleaa
open Go.RowKit
attribute [local go_sem] ByteArray.mk_append_mk

theorem ret_int {k : IntKind} {a b : Int} (h : a = b) : Ending.returned (.int k a) = .returned (.int k b) := by rw [h]
/-- An operation. -/
structure OpM where
  kind : Int
  key : List UInt8
  value : List UInt8
  version : Int
  deriving DecidableEq

def OpM.cells (o : OpM) : Array Value := #[.int .i64 o.kind, S o.key, S o.value, .int .i64 o.version]
abbrev opV (o : OpM) : Value := .agg o.cells

/-- What is wrong with it. -/
def chkO (o : OpM) : Int :=
  if o.kind < 1 ∨ 4 < o.kind ∨ o.key = [] ∨ o.version < 0 ∨ 4096 < o.version ∨ (o.version ≠ 0 ∧ o.kind ≠ 4) ∨ (o.value ≠ [] ∧ o.kind ≠ 2 ∧ o.kind ≠ 4) then 2
  else if 16 < o.key.length ∨ 64 < o.value.length then 3 else 0

theorem chkO_0 {o : OpM} : chkO o = 0 ↔ (1 ≤ o.kind ∧ o.kind ≤ 4 ∧ o.key ≠ [] ∧ 0 ≤ o.version ∧ o.version ≤ 4096 ∧ (o.version = 0 ∨ o.kind = 4) ∧ (o.value = [] ∨ o.kind = 2 ∨ o.kind = 4) ∧ o.key.length ≤ 16 ∧ o.value.length ≤ 64) := by
  unfold chkO
  split
  · rename_i h; constructor
    · intro h; omega
    · rintro ⟨h1, h2, h3, h4, h5, h6, h7, h8, h9⟩
      rcases h with h | h | h | h | h | h | h
      · omega
      · omega
      · exact absurd h h3
      · omega
      · omega
      · omega
      · rcases h7 with h7 | h7
        · exact absurd h7 h.1
        · omega
  · rename_i h
    simp only [not_or, not_and] at h
    obtain ⟨h1, h2, h3, h4, h5, h6, h7⟩ := h
    split
    · rename_i hl; constructor
      · intro h; omega
      · rintro ⟨_, _, _, _, _, _, _, h8, h9⟩; omega
    · rename_i hl
      simp only [true_iff]
      refine ⟨by omega, by omega, h3, by omega, by omega, by omega, ?_, by omega, by omega⟩
      by_cases hv : o.value = []
      · exact .inl hv
      · have := h7 hv; omega

set_option maxHeartbeats 400000 in
theorem valued_any (k : Int) (w : World) : Calls Try.prog 83 #[.int .i64 k] w fun e w' => e = .returned (.bool (k == 2 || k == 4)) ∧ w = w' := by
  by_cases h2 : k = 2
  · subst h2
    go_enter Try.func83, Try.ntmps83
    go_wp2
    go_ret
    exact ⟨rfl, rfl⟩
  · have h2' : (k == 2) = false := by simpa using h2
    go_enter Try.func83, Try.ntmps83
    go_wp2
    go_ret
    exact ⟨by simp [h2'], rfl⟩

set_option maxRecDepth 100000 in
set_option maxHeartbeats 2000000 in
theorem check_any (o : OpM) (w : World) : Calls Try.prog 54 #[opV o] w fun e w' => e = .returned (.int .i64 (chkO o)) ∧ w.grownBy w' none := by
  obtain ⟨kind, key, value, version⟩ := o
  simp only [opV, OpM.cells]
  go_enter Try.func54, Try.ntmps54
  go_wp2_with (go_at_call 83; refine (valued_any _ _).mono ?_; rintro e w' ⟨rfl, rfl⟩)
  all_goals
    go_ret
    refine ⟨ret_int ?_, only_alloc (only_refl _ _) _⟩
    go_light
    first
      | (simp_all [chkO]; done)
      | (simp_all [chkO]; omega)

theorem check_at (o : OpM) (e : Int) (w : World) (h : chkO o = e) : Calls Try.prog 54 #[opV o] w fun x w' => x = .returned (.int .i64 e) ∧ w.grownBy w' none := by
  rw [← h]; exact check_any o w

end Go.Proofs.Ytlphkjbadjdleaa
namespace Go.Proofs.Ytlphkjbadjdleaa
open Go.RowKit Go.ChangeShapes Go.WideShapes

/-- What one cell holds. -/
abbrev LeafP := World → Value → Prop
def intL (k : IntKind) : LeafP := fun _ v => ∃ n, v = .int k n ∧ (Lit.int k n).wf = true
def boolL : LeafP := fun _ v => ∃ b, v = .bool b
def strL : LeafP := fun _ v => ∃ s : ByteArray, v = .string s ∧ s.size ≤ maxLen
/-- Cells, one after the other. -/
def AllL (w : World) : List LeafP → List Value → Prop
  | [], [] => True
  | l :: ls, v :: vs => l w v ∧ AllL w ls vs
  | _, _ => False
/-- n such elements from an address on. -/
def RowsAt (ls : List LeafP) (w : World) (a : Option Addr) (n : Nat) : Prop :=
  0 < n → ∃ b off, a = some ⟨b, off, none⟩ ∧ b < w.heap.size ∧ ∀ i, i < n → ∃ cs, AllL w ls cs ∧ ∀ j u, cs[j]? = some u → w.cell? ⟨b, off + i * ls.length + j, none⟩ = some u
/-- A slice of such elements. -/
def rowsL (ls : List LeafP) : LeafP := fun w v => ∃ (a : Option Addr) (n cap : Nat), v = .slice a n cap ∧ n ≤ cap ∧ cap ≤ maxLen ∧ RowsAt ls w a n

theorem AllL.len {w : World} : ∀ {ls : List LeafP} {cs : List Value}, AllL w ls cs → cs.length = ls.length
  | [], [], _ => rfl
  | _ :: _, _ :: _, h => by simp [AllL.len h.2]
  | [], _ :: _, h => h.elim
  | _ :: _, [], h => h.elim
theorem AllL.append_ {w : World} : ∀ {ls ms : List LeafP} {cs ds : List Value}, AllL w ls cs → AllL w ms ds → AllL w (ls ++ ms) (cs ++ ds)
  | [], _, [], _, _, k => k
  | _ :: _, _, _ :: _, _, h, k => ⟨h.1, AllL.append_ h.2 k⟩
  | [], _, _ :: _, _, h, _ => h.elim
  | _ :: _, _, [], _, h, _ => h.elim

section
variable {P : Program}
/-- A type's cells read as these. -/
def Reads (P : Program) (t : TypeId) (ls : List LeafP) : Prop :=
  P.cellsOf t = ls.length ∧ ∀ {H : Type} (enc : TypeId × Value → H) (w : World) (base : Nat) (spare : Nat → Bool) (held : Bool) (fuel : Nat) (cs : List Value) (x : DataW H × List MemPlace),
    DataW.trod enc P w base spare held fuel t cs = some x → AllL w ls cs

theorem reads_str {t : TypeId} (ht : P.underlying t = some .string) (hc : P.cellsOf t = 1) : Reads P t [strL] :=
  ⟨hc, fun _ _ _ _ _ _ _ _ h => by
    obtain ⟨n, rfl, _, hn⟩ := DataW.trod_string ht h
    exact ⟨⟨n, rfl, hn⟩, trivial⟩⟩

/-- Fields, one after the other. -/
def FieldsR (P : Program) : Nat → List Field → List LeafP → Prop
  | _, [], ls => ls = []
  | off, f :: fs, ls => f.offset = off ∧ ∃ l1 l2, Reads P f.type l1 ∧ ls = l1 ++ l2 ∧ FieldsR P (off + l1.length) fs l2

/-- An argument of one cell. -/
theorem reads_one {t : TypeId} {l : LeafP} (hr : Reads P t [l]) {H : Type} {enc : TypeId × Value → H} {w : World} {base : Nat} {spare : Nat → Bool} {held : Bool} {v : Value} {d : DataW H} {p : List MemPlace}
    (hv : v.cells = #[v]) (h : DataW.Trod enc P w base spare held t v d p) : l w v := by
  obtain ⟨fuel, hf⟩ := h
  rw [hv] at hf
  exact (hr.2 enc w base spare held fuel _ _ hf).1
end
end Go.Proofs.Ytlphkjbadjdleaa
namespace Go.Proofs.Ytlphkjbadjdleaa
theorem SliceV.congr {w : World} {v : Value} {sz n : Nat} {f g : Nat → Nat → Value} (h : SliceV w v sz n f) (hf : ∀ r c, r < n → c < sz → f r c = g r c) : SliceV w v sz n g := by
  obtain ⟨a, cap, rfl, h1, h2, h3⟩ := h
  refine ⟨a, cap, rfl, h1, h2, fun hn => ?_⟩
  obtain ⟨b, off, rfl, hb, hc⟩ := h3 hn
  exact ⟨b, off, rfl, hb, fun r c hr hcz => (hc r c hr hcz).trans (by rw [hf r c hr hcz])⟩
end Go.Proofs.Ytlphkjbadjdleaa
namespace Go.Proofs.Ytlphkjbadjdleaa

structure ChM where
  epoch : Int
  mem : List (Int × Int)
  drain : Int
def chV (c : ChM) (q : Value) : Value := .agg #[.int .i64 c.epoch, q, .int .i64 c.drain]
def chS (c : ChM) (q : SV) : SV := .agg [.v (.int .i64 c.epoch), q, .v (.int .i64 c.drain)]
def memF (ms : List (Int × Int)) : Nat → Nat → Value := fun r c => if c = 0 then .int .i64 (ms.getD r (0, 0)).1 else .int .i64 (ms.getD r (0, 0)).2
def sameCh (a b : ChM) : Bool := (a.epoch == b.epoch) && ((a.drain == b.drain) && (a.mem == b.mem))
/-- A chain's value, with the rows that its members are. -/
abbrev ChSl (w : World) (p : Value) (c : ChM) : Prop := SliceV w p 2 c.mem.length (memF c.mem)
end Go.Proofs.Ytlphkjbadjdleaa
namespace Go.Proofs.Ytlphkjbadjdleaa
/-- A result. -/
structure ResM where
  code : Int
  value : List UInt8
  version : Int
  pos : Int
  deriving DecidableEq
def resC (r : ResM) : List Value := [.int .i64 r.code, S r.value, .int .i64 r.version, .int .i64 r.pos]
def resZ : ResM := ⟨0, [], 0, 0⟩
abbrev resV (r : ResM) : Value := .agg ⟨resC r⟩
/-- Keys with values and versions, in the order in which they came. -/
abbrev KC := List UInt8 × List UInt8 × Int
def kcs (cs : List KC) : List (Value × Value) := cs.map fun c => (S c.1, .agg #[S c.2.1, .int .i64 c.2.2])
def findC : List KC → List UInt8 → Option (List UInt8 × Int)
  | [], _ => none
  | c :: r, k => if c.1 = k then some c.2 else findC r k
def setC : List KC → List UInt8 → List UInt8 → Int → List KC
  | [], k, v, n => [(k, v, n)]
  | c :: r, k, v, n => if c.1 = k then (k, v, n) :: r else c :: setC r k v n
def delC : List KC → List UInt8 → List KC
  | [], _ => []
  | c :: r, k => if c.1 = k then r else c :: delC r k
/-- What a key has, behind so many entries. -/
def lookM (q : Option (List UInt8 × Int)) (n : Int) : ResM := match q with
  | some (v, ver) => ⟨1, v, ver, n⟩
  | none => ⟨2, [], 0, n⟩
/-- What an operation does to what its key has (none: it stays), and its result. -/
inductive Eff where
  | stay
  | gone
  | put (v : List UInt8) (n : Int)
def effM (q : Option (List UInt8 × Int)) (n : Int) (o : OpM) : Eff × ResM :=
  if n < 1 ∨ 4096 < n ∨ ¬ chkO o = 0 then (.stay, resZ)
  else if o.kind = 1 then (.stay, lookM q n)
  else if o.kind = 3 then (match q with | none => (.stay, ⟨2, [], 0, n⟩) | some _ => (.gone, ⟨1, [], 0, n⟩))
  else if o.kind = 4 ∧ ¬ (q.getD ([], 0)).2 = o.version then (.stay, ⟨3, (q.getD ([], 0)).1, (q.getD ([], 0)).2, n⟩)
  else (.put o.value n, ⟨1, [], n, n⟩)
def effC (cs : List KC) (k : List UInt8) : Eff → List KC
  | .stay => cs
  | .gone => delC cs k
  | .put v n => setC cs k v n
def applyM (cs : List KC) (n : Int) (o : OpM) : List KC × ResM := (effC cs o.key (effM (findC cs o.key) n o).1, (effM (findC cs o.key) n o).2)
/-- An entry. -/
structure EntM where
  index : Int
  client : Int
  seq : Int
  op : OpM
  deriving DecidableEq
def entC (e : EntM) : List Value := [.int .i64 e.index, .int .i64 e.client, .int .i64 e.seq, .int .i64 e.op.kind, S e.op.key, S e.op.value, .int .i64 e.op.version]
def entZ : EntM := ⟨0, 0, 0, ⟨0, [], [], 0⟩⟩
abbrev entV (e : EntM) : Value := .agg ⟨entC e⟩
abbrev resS (r : ResM) : SV := .agg [.v (.int .i64 r.code), .v (S r.value), .v (.int .i64 r.version), .v (.int .i64 r.pos)]
abbrev entS (e : EntM) : SV := .agg [.v (.int .i64 e.index), .v (.int .i64 e.client), .v (.int .i64 e.seq), .v (.int .i64 e.op.kind), .v (S e.op.key), .v (S e.op.value), .v (.int .i64 e.op.version)]
end Go.Proofs.Ytlphkjbadjdleaa
namespace Go.Proofs.Ytlphkjbadjdleaa
structure FrM where
  kind : Int
  epoch : Int
  client : Int
  seq : Int
  try' : Int
  cls : Int
  deadline : Int
  op : OpM
  res : ResM
  reason : Int
  ent : EntM
  ch : ChM
  index : Int
  grant : Int
  have' : Int
def opZ : OpM := ⟨0, [], [], 0⟩
def chN : ChM := ⟨0, [], 0⟩
def frZ : FrM := ⟨0, 0, 0, 0, 0, 0, 0, opZ, resZ, 0, entZ, chN, 0, 0, 0⟩
def frC (f : FrM) (q : Value) : List Value := [.int .i64 f.kind, .int .i64 f.epoch, .int .i64 f.client, .int .i64 f.seq, .int .i64 f.try', .int .i64 f.cls, .int .i64 f.deadline, .int .i64 f.op.kind, S f.op.key, S f.op.value, .int .i64 f.op.version,
  .int .i64 f.res.code, S f.res.value, .int .i64 f.res.version, .int .i64 f.res.pos, .int .i64 f.reason, .int .i64 f.ent.index, .int .i64 f.ent.client, .int .i64 f.ent.seq, .int .i64 f.ent.op.kind, S f.ent.op.key, S f.ent.op.value, .int .i64 f.ent.op.version,
  .int .i64 f.ch.epoch, q, .int .i64 f.ch.drain, .int .i64 f.index, .int .i64 f.grant, .int .i64 f.have']
/-- The same, with the members' slice as it is known. -/
abbrev frL (f : FrM) (q : SV) : List SV := [.v (.int .i64 f.kind), .v (.int .i64 f.epoch), .v (.int .i64 f.client), .v (.int .i64 f.seq), .v (.int .i64 f.try'), .v (.int .i64 f.cls), .v (.int .i64 f.deadline), .v (.int .i64 f.op.kind), .v (S f.op.key), .v (S f.op.value), .v (.int .i64 f.op.version),
  .v (.int .i64 f.res.code), .v (S f.res.value), .v (.int .i64 f.res.version), .v (.int .i64 f.res.pos), .v (.int .i64 f.reason), .v (.int .i64 f.ent.index), .v (.int .i64 f.ent.client), .v (.int .i64 f.ent.seq), .v (.int .i64 f.ent.op.kind), .v (S f.ent.op.key), .v (S f.ent.op.value), .v (.int .i64 f.ent.op.version),
  .v (.int .i64 f.ch.epoch), q, .v (.int .i64 f.ch.drain), .v (.int .i64 f.index), .v (.int .i64 f.grant), .v (.int .i64 f.have')]
abbrev frS (f : FrM) (q : SV) : SV := .agg (frL f q)
structure SndM where
  to : Int
  fr : FrM
def sndZ : SndM := ⟨0, frZ⟩
def sndC (x : SndM) (q : Value) : List Value := .int .i64 x.to :: frC x.fr q
abbrev sndS (x : SndM) (q : SV) : SV := .agg (.v (.int .i64 x.to) :: frL x.fr q)
/-- The rows of what is sent; p: where each one's members lie. -/
def sndF (l : List SndM) (p : Nat → Value) : Nat → Nat → Value := fun r c => (sndC (l.getD r sndZ) (p r)).getD c undef
def sndQ (l : List SndM) (p : Nat → Value) (w : World) : Prop := ∀ r, r < l.length → ChSl w (p r) (l.getD r sndZ).fr.ch
end Go.Proofs.Ytlphkjbadjdleaa
namespace Go.Proofs.Ytlphkjbadjdleaa
open Go.RowKit
attribute [local go_sem] ByteArray.mk_append_mk

set_option maxRecDepth 100000 in
set_option maxHeartbeats 2000000 in
theorem rcheck_any (o : OpM) (w : World) : Calls Try.prog 65 #[opV o] w fun e w' => e = .returned (.int .i64 (chkO o)) ∧ w.grownBy w' none := by
  obtain ⟨kind, key, value, version⟩ := o
  simp only [opV, OpM.cells]
  go_enter Try.func65, Try.ntmps65
  go_wp2
  all_goals
    go_ret
    refine ⟨ret_int ?_, only_alloc (only_refl _ _) _⟩
    go_light
    first
      | (simp_all [chkO]; done)
      | (simp_all [chkO]; omega)
      | (have hv : ¬ value = [] := (by intro h; subst h; simp_all)
         simp_all [chkO]; done)
      | (have hv : ¬ value = [] := (by intro h; subst h; simp_all)
         simp_all [chkO]; omega)

theorem rcheck_at (o : OpM) (e : Int) (w : World) (h : chkO o = e) : Calls Try.prog 65 #[opV o] w fun x w' => x = .returned (.int .i64 e) ∧ w.grownBy w' none := by
  rw [← h]; exact rcheck_any o w

end Go.Proofs.Ytlphkjbadjdleaa
