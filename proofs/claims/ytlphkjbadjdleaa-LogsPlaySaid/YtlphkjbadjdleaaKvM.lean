/-
  What keys have, and what operations do: plain lists. No program in sight, no condition.
-/
import Derived.Test.YtlphkjbadjdleaaRxP
import Derived.Test.YtlphkjbadjdleaaOpC
namespace Go.Proofs.Ytlphkjbadjdleaa
/-- A result. -/
structure ResM where
  code : Int
  value : List UInt8
  version : Int
  pos : Int
  deriving DecidableEq
def resC (r : ResM) : List Value := [.int .i64 r.code, S r.value, .int .i64 r.version, .int .i64 r.pos]
def resZ : ResM := ⟨0, [], 0, 0⟩
abbrev resV (r : ResM) : Value := .agg ⟨resC r⟩
/-- Keys with values and versions, in the order in which they came. -/
abbrev KC := List UInt8 × List UInt8 × Int
def kcs (cs : List KC) : List (Value × Value) := cs.map fun c => (S c.1, .agg #[S c.2.1, .int .i64 c.2.2])
def findC : List KC → List UInt8 → Option (List UInt8 × Int)
  | [], _ => none
  | c :: r, k => if c.1 = k then some c.2 else findC r k
def setC : List KC → List UInt8 → List UInt8 → Int → List KC
  | [], k, v, n => [(k, v, n)]
  | c :: r, k, v, n => if c.1 = k then (k, v, n) :: r else c :: setC r k v n
def delC : List KC → List UInt8 → List KC
  | [], _ => []
  | c :: r, k => if c.1 = k then r else c :: delC r k
theorem keyEq_S (a b : List UInt8) : keyEq (S a) (S b) = decide (a = b) := by
  show (a == b) = decide (a = b)
  rw [Bool.eq_iff_iff]; simp
theorem lookE_kcs : ∀ (cs : List KC) (k : List UInt8), lookE (kcs cs) (S k) = (findC cs k).map fun q => .agg #[S q.1, .int .i64 q.2]
  | [], _ => rfl
  | c :: r, k => by
    have ih := lookE_kcs r k
    simp only [kcs, List.map_cons, lookE, keyEq_S, findC] at ih ⊢
    by_cases h : c.1 = k
    · simp [h]
    · rw [if_neg h, if_neg (by simpa using fun e => h e.symm)]
      exact ih
theorem look_none {cs : List KC} {k : List UInt8} (h : findC cs k = none) : lookE (kcs cs) (S k) = none := by rw [lookE_kcs, h]; rfl
theorem look_some {cs : List KC} {k v : List UInt8} {n : Int} (h : findC cs k = some (v, n)) : lookE (kcs cs) (S k) = some (.agg #[S v, .int .i64 n]) := by rw [lookE_kcs, h]; rfl
theorem updE_kcs : ∀ (cs : List KC) (k v : List UInt8) (n : Int), updE (kcs cs) (S k) (.agg #[S v, .int .i64 n]) = kcs (setC cs k v n)
  | [], _, _, _ => rfl
  | c :: r, k, v, n => by
    have ih := updE_kcs r k v n
    simp only [kcs, List.map_cons, updE, keyEq_S, setC] at ih ⊢
    by_cases h : c.1 = k
    · simp [h]
    · rw [if_neg h, if_neg (by simpa using fun e => h e.symm), ih]
      rfl
theorem delE_kcs : ∀ (cs : List KC) (k : List UInt8), delE (kcs cs) (S k) = kcs (delC cs k)
  | [], _ => rfl
  | c :: r, k => by
    have ih := delE_kcs r k
    simp only [kcs, List.map_cons, delE, keyEq_S, delC] at ih ⊢
    by_cases h : c.1 = k
    · simp [h]
    · rw [if_neg h, if_neg (by simpa using fun e => h e.symm), ih]
      rfl
/-- What a key has, behind so many entries. -/
def lookM (q : Option (List UInt8 × Int)) (n : Int) : ResM := match q with
  | some (v, ver) => ⟨1, v, ver, n⟩
  | none => ⟨2, [], 0, n⟩
/-- What an operation does to what its key has (none: it stays), and its result. -/
inductive Eff where
  | stay
  | gone
  | put (v : List UInt8) (n : Int)
def effM (q : Option (List UInt8 × Int)) (n : Int) (o : OpM) : Eff × ResM :=
  if n < 1 ∨ 4096 < n ∨ ¬ chkO o = 0 then (.stay, resZ)
  else if o.kind = 1 then (.stay, lookM q n)
  else if o.kind = 3 then (match q with | none => (.stay, ⟨2, [], 0, n⟩) | some _ => (.gone, ⟨1, [], 0, n⟩))
  else if o.kind = 4 ∧ ¬ (q.getD ([], 0)).2 = o.version then (.stay, ⟨3, (q.getD ([], 0)).1, (q.getD ([], 0)).2, n⟩)
  else (.put o.value n, ⟨1, [], n, n⟩)
def effC (cs : List KC) (k : List UInt8) : Eff → List KC
  | .stay => cs
  | .gone => delC cs k
  | .put v n => setC cs k v n
def applyM (cs : List KC) (n : Int) (o : OpM) : List KC × ResM := (effC cs o.key (effM (findC cs o.key) n o).1, (effM (findC cs o.key) n o).2)
/-- An entry. -/
structure EntM where
  index : Int
  client : Int
  seq : Int
  op : OpM
  deriving DecidableEq
def entC (e : EntM) : List Value := [.int .i64 e.index, .int .i64 e.client, .int .i64 e.seq, .int .i64 e.op.kind, S e.op.key, S e.op.value, .int .i64 e.op.version]
def entZ : EntM := ⟨0, 0, 0, ⟨0, [], [], 0⟩⟩
abbrev entV (e : EntM) : Value := .agg ⟨entC e⟩
theorem entC_one (x : EntM) (c : Nat) (h : c < 7) : ((entC x).getD c undef).oneCell' = true := by
  rcases c with _ | _ | _ | _ | _ | _ | _ | c <;> first | rfl | omega
theorem resC_one (x : ResM) (c : Nat) (h : c < 4) : ((resC x).getD c undef).oneCell' = true := by
  rcases c with _ | _ | _ | _ | c <;> first | rfl | omega
abbrev resS (r : ResM) : SV := .agg [.v (.int .i64 r.code), .v (S r.value), .v (.int .i64 r.version), .v (.int .i64 r.pos)]
abbrev entS (e : EntM) : SV := .agg [.v (.int .i64 e.index), .v (.int .i64 e.client), .v (.int .i64 e.seq), .v (.int .i64 e.op.kind), .v (S e.op.key), .v (S e.op.value), .v (.int .i64 e.op.version)]
end Go.Proofs.Ytlphkjbadjdleaa
