/-
  A shot behind an entry may be; its bytes, and back. Plain lists, no program in sight but for texts' bytes, no condition.
-/
import Derived.Test.YtfkbodonidkpoaaShM
import Derived.Test.YtfkbodonidkpoaaRise
import Derived.Test.YtfkbodonidkpoaaPL
namespace Go.Proofs.Ytfkbodonidkpoaa
theorem insC_mem {l : List KC} {k v : List UInt8} {n : Int} {c : KC} (h : c ∈ insC l k v n) : c = (k, v, n) ∨ c ∈ l := by
  unfold insC at h
  rcases List.mem_append.1 h with h | h
  · rcases List.mem_append.1 h with h | h
    · exact .inr ((List.mem_filter.1 (List.mem_of_mem_take h)).1)
    · exact .inl (by simpa using h)
  · exact .inr ((List.mem_filter.1 (List.mem_of_mem_drop h)).1)
theorem CellI.mono {n m : Int} {c : KC} (h : CellI n c) (hm : n ≤ m) : CellI m c := ⟨h.k1, h.k16, h.v64, h.n1, Int.le_trans h.nn hm⟩
theorem LastI.mono {n m : Int} {c : LaM} (h : LastI n c) (hm : n ≤ m) : LastI m c := ⟨h.c0, h.c5, h.s1, h.sn, h.r1, h.r3, h.v64, h.n0, h.n4, h.p1, Int.le_trans h.pn hm⟩
/-! The bytes. -/
def cellB (c : KC) : List UInt8 := textB c.1 ++ textB c.2.1 ++ intB c.2.2
def lastB (x : LaM) : List UInt8 := intB x.client ++ intB x.seq ++ intB x.res.code ++ textB x.res.value ++ intB x.res.version ++ intB x.res.pos
def cellsB : List KC → List UInt8
  | [] => []
  | c :: r => cellB c ++ cellsB r
def lastsB : List LaM → List UInt8
  | [] => []
  | c :: r => lastB c ++ lastsB r
def putSB (s : ShM) : List UInt8 := intB s.index ++ intB s.cells.length ++ cellsB s.cells ++ intB s.lasts.length ++ lastsB s.lasts
def putS (s : ShM) : List UInt8 × Int := if chkS s then (putSB s, 0) else ([], 2)
abbrev nI (l : List UInt8) : Int := uN (unintB l)
abbrev rI (l : List UInt8) : List UInt8 := rR (unintB l)
abbrev oI (l : List UInt8) : Bool := (unintB l).isSome
abbrev nT (l : List UInt8) : List UInt8 := cN (cutB l)
abbrev rT (l : List UInt8) : List UInt8 := rR (cutB l)
abbrev oT (l : List UInt8) : Bool := (cutB l).isSome
def cellG (l : List UInt8) : KC := (nT l, nT (rT l), nI (rT (rT l)))
def cellR (l : List UInt8) : List UInt8 := rI (rT (rT l))
def cellO (l : List UInt8) : Bool := oI (rT (rT l))
def lastG (l : List UInt8) : LaM := ⟨nI l, nI (rI l), ⟨nI (rI (rI l)), nT (rI (rI (rI l))), nI (rT (rI (rI (rI l)))), nI (rI (rT (rI (rI (rI l)))))⟩⟩
def lastR (l : List UInt8) : List UInt8 := rI (rI (rT (rI (rI (rI l)))))
def lastO (l : List UInt8) : Bool := oI (rI (rT (rI (rI (rI l)))))
/-- So many, as long as all goes well. -/
def manyG {α : Type} (g : List UInt8 → α) (r : List UInt8 → List UInt8) (o : List UInt8 → Bool) : Nat → List UInt8 → Bool → List α × List UInt8 × Bool
  | 0, l, ok => ([], l, ok)
  | n + 1, l, ok => if ok then (g l :: (manyG g r o n (r l) (o l)).1, (manyG g r o n (r l) (o l)).2) else ([], l, ok)
abbrev cellsG (n : Nat) (l : List UInt8) (ok : Bool) : List KC × List UInt8 × Bool := manyG cellG cellR cellO n l ok
abbrev lastsG (n : Nat) (l : List UInt8) (ok : Bool) : List LaM × List UInt8 × Bool := manyG lastG lastR lastO n l ok
/-- What bytes say. -/
structure RdM where
  s : ShM
  n1 : Int
  n2 : Int
  rest : List UInt8
  ok : Bool
def readS (t : List UInt8) : RdM :=
  let c := cellsG (nI (rI t)).toNat (rI (rI t)) (oI (rI t))
  let l := lastsG (nI c.2.1).toNat (rI c.2.1) (oI c.2.1)
  ⟨⟨nI t, c.1, l.1⟩, nI (rI t), nI c.2.1, l.2.1, l.2.2⟩
def getS' (t : List UInt8) : ShM × Int := if 0 ≤ (readS t).n1 ∧ 0 ≤ (readS t).n2 ∧ (readS t).ok = true ∧ (readS t).rest = [] ∧ chkS (readS t).s = true then ((readS t).s, 0) else (shZ, 10)
def rgetS (t : List UInt8) : ShM × Int := if chkS (readS t).s = true ∧ putSB (readS t).s = t then ((readS t).s, 0) else (shZ, 10)
end Go.Proofs.Ytfkbodonidkpoaa
