/-
  A shot behind an entry may be; its bytes, and back. Plain lists, no program in sight but for texts' bytes, no condition.
-/
import Derived.Test.YtfkbodonidkpoaaQ8
import Derived.Test.YtfkbodonidkpoaaPL
namespace Go.Proofs.Ytfkbodonidkpoaa
theorem riseK_iff {l : List KC} : riseK l ↔ riseC l := by
  unfold riseK riseC
  constructor <;> intro h <;> refine h.imp fun {a b} h => ?_
  · exact (bytesLess_lt _ _).1 h
  · exact (bytesLess_lt _ _).2 h
theorem insC_mem {l : List KC} {k v : List UInt8} {n : Int} {c : KC} (h : c ∈ insC l k v n) : c = (k, v, n) ∨ c ∈ l := by
  unfold insC at h
  rcases List.mem_append.1 h with h | h
  · rcases List.mem_append.1 h with h | h
    · exact .inr ((List.mem_filter.1 (List.mem_of_mem_take h)).1)
    · exact .inl (by simpa using h)
  · exact .inr ((List.mem_filter.1 (List.mem_of_mem_drop h)).1)
/-- What an operation that may be tells. -/
theorem effM_res (q : Option (List UInt8 × Int)) (n : Int) (o : OpM) (h1 : 1 ≤ n) (h2 : n ≤ 4096) (h3 : chkO o = 0) (hq : ∀ v m, q = some (v, m) → v.length ≤ 64 ∧ 0 ≤ m ∧ m ≤ 4096) :
    (1 ≤ (effM q n o).2.code ∧ (effM q n o).2.code ≤ 3) ∧ (effM q n o).2.value.length ≤ 64 ∧ (0 ≤ (effM q n o).2.version ∧ (effM q n o).2.version ≤ 4096) ∧ (effM q n o).2.pos = n := by
  unfold effM
  rw [if_neg (by omega)]
  have hq' : (q.getD ([], 0)).1.length ≤ 64 ∧ 0 ≤ (q.getD ([], 0)).2 ∧ (q.getD ([], 0)).2 ≤ 4096 := by
    rcases q with _ | ⟨v, m⟩
    · simp
    · exact hq v m rfl
  split
  · rcases q with _ | ⟨v, m⟩
    · exact ⟨⟨by show (1 : Int) ≤ 2; decide, by show (2 : Int) ≤ 3; decide⟩, Nat.zero_le _, ⟨Int.le_refl _, by show (0 : Int) ≤ 4096; decide⟩, rfl⟩
    · exact ⟨⟨Int.le_refl _, by show (1 : Int) ≤ 3; decide⟩, hq'.1, hq'.2, rfl⟩
  split
  · rcases q with _ | ⟨v, m⟩
    · exact ⟨⟨by show (1 : Int) ≤ 2; decide, by show (2 : Int) ≤ 3; decide⟩, Nat.zero_le _, ⟨Int.le_refl _, by show (0 : Int) ≤ 4096; decide⟩, rfl⟩
    · exact ⟨⟨Int.le_refl _, by show (1 : Int) ≤ 3; decide⟩, Nat.zero_le _, ⟨Int.le_refl _, by show (0 : Int) ≤ 4096; decide⟩, rfl⟩
  split
  · exact ⟨⟨by show (1 : Int) ≤ 3; decide, Int.le_refl _⟩, hq'.1, hq'.2, rfl⟩
  · exact ⟨⟨Int.le_refl _, by show (1 : Int) ≤ 3; decide⟩, Nat.zero_le _, ⟨by show 0 ≤ n; omega, h2⟩, rfl⟩
theorem eff_put_is {q : Option (List UInt8 × Int)} {n : Int} {o : OpM} {v : List UInt8} {m : Int} (h : (effM q n o).1 = .put v m) : v = o.value ∧ m = n ∧ chkO o = 0 := by
  unfold effM at h
  split at h
  · cases h
  rename_i h0
  split at h
  · cases h
  split at h
  · rcases q with _ | _ <;> cases h
  split at h
  · cases h
  · cases h
    exact ⟨rfl, rfl, Classical.byContradiction fun h' => h0 (.inr (.inr h'))⟩
theorem CellI.mono {n m : Int} {c : KC} (h : CellI n c) (hm : n ≤ m) : CellI m c := ⟨h.k1, h.k16, h.v64, h.n1, Int.le_trans h.nn hm⟩
theorem LastI.mono {n m : Int} {c : LaM} (h : LastI n c) (hm : n ≤ m) : LastI m c := ⟨h.c0, h.c5, h.s1, h.sn, h.r1, h.r3, h.v64, h.n0, h.n4, h.p1, Int.le_trans h.pn hm⟩
theorem nextS_ok {s : ShM} {e : EntM} (h : ErrS0 s e) : ChkS (nextS s e) := by
  have hi := h.index
  have hr := h.room
  have hs := h.chk
  have hlo := hs.lo
  have ho := chkO_0.1 h.op
  refine ChkS.mk' (by show 0 ≤ e.index; omega) (by show e.index ≤ 4096; omega) ?_ (putL_rise hs.risesL) (fun c hc => ?_) (fun c hc => ?_)
  · exact riseK_iff.2 (riseC_apply _ _ (riseK_iff.1 hs.rise))
  · show CellI e.index c
    have hold : ∀ c ∈ s.cells, CellI e.index c := fun c hc => (hs.cellI hc).mono (by omega)
    have hc' : c ∈ effD s.cells e.op.key (effM (findC s.cells e.op.key) e.index e.op).1 := hc
    rcases hq : (effM (findC s.cells e.op.key) e.index e.op).1 with _ | _ | ⟨v, m⟩
    · rw [hq] at hc'; exact hold c hc'
    · rw [hq] at hc'; exact hold c ((List.mem_filter.1 hc').1)
    · rw [hq] at hc'
      obtain ⟨rfl, rfl, _⟩ := eff_put_is hq
      rcases insC_mem hc' with rfl | hc'
      · have hk : 1 ≤ e.op.key.length := List.length_pos_iff.2 ho.2.2.1
        exact ⟨hk, ho.2.2.2.2.2.2.2.1, ho.2.2.2.2.2.2.2.2, by show 1 ≤ e.index; omega, Int.le_refl _⟩
      · exact hold c hc'
  · show LastI e.index c
    rcases putL_mem hc with rfl | hc
    · have := effM_res (findC s.cells e.op.key) e.index e.op (by omega) (by omega) h.op fun v m hv => by
        have := hs.cellI (findC_mem hv)
        have h1 := this.v64
        have h2 := this.n1
        have h3 := this.nn
        simp only at h1 h2 h3
        exact ⟨h1, by omega, by omega⟩
      obtain ⟨⟨r1, r3⟩, v64, ⟨n0, n4⟩, hp⟩ := this
      refine ⟨h.c0, h.c5, h.s1, h.sn, r1, r3, v64, n0, n4, ?_, ?_⟩
      · show 1 ≤ (effM (findC s.cells e.op.key) e.index e.op).2.pos
        omega
      · show (effM (findC s.cells e.op.key) e.index e.op).2.pos ≤ e.index
        omega
    · exact (hs.lastI hc).mono (by omega)
/-! The bytes. -/
def cellB (c : KC) : List UInt8 := textB c.1 ++ textB c.2.1 ++ intB c.2.2
def lastB (x : LaM) : List UInt8 := intB x.client ++ intB x.seq ++ intB x.res.code ++ textB x.res.value ++ intB x.res.version ++ intB x.res.pos
def cellsB : List KC → List UInt8
  | [] => []
  | c :: r => cellB c ++ cellsB r
def lastsB : List LaM → List UInt8
  | [] => []
  | c :: r => lastB c ++ lastsB r
def putSB (s : ShM) : List UInt8 := intB s.index ++ intB s.cells.length ++ cellsB s.cells ++ intB s.lasts.length ++ lastsB s.lasts
def putS (s : ShM) : List UInt8 × Int := if chkS s then (putSB s, 0) else ([], 2)
abbrev nI (l : List UInt8) : Int := uN (unintB l)
abbrev rI (l : List UInt8) : List UInt8 := rR (unintB l)
abbrev oI (l : List UInt8) : Bool := (unintB l).isSome
abbrev nT (l : List UInt8) : List UInt8 := cN (cutB l)
abbrev rT (l : List UInt8) : List UInt8 := rR (cutB l)
abbrev oT (l : List UInt8) : Bool := (cutB l).isSome
def cellG (l : List UInt8) : KC := (nT l, nT (rT l), nI (rT (rT l)))
def cellR (l : List UInt8) : List UInt8 := rI (rT (rT l))
def cellO (l : List UInt8) : Bool := oI (rT (rT l))
def lastG (l : List UInt8) : LaM := ⟨nI l, nI (rI l), ⟨nI (rI (rI l)), nT (rI (rI (rI l))), nI (rT (rI (rI (rI l)))), nI (rI (rT (rI (rI (rI l)))))⟩⟩
def lastR (l : List UInt8) : List UInt8 := rI (rI (rT (rI (rI (rI l)))))
def lastO (l : List UInt8) : Bool := oI (rI (rT (rI (rI (rI l)))))
/-- So many, as long as all goes well. -/
def manyG {α : Type} (g : List UInt8 → α) (r : List UInt8 → List UInt8) (o : List UInt8 → Bool) : Nat → List UInt8 → Bool → List α × List UInt8 × Bool
  | 0, l, ok => ([], l, ok)
  | n + 1, l, ok => if ok then (g l :: (manyG g r o n (r l) (o l)).1, (manyG g r o n (r l) (o l)).2) else ([], l, ok)
abbrev cellsG (n : Nat) (l : List UInt8) (ok : Bool) : List KC × List UInt8 × Bool := manyG cellG cellR cellO n l ok
abbrev lastsG (n : Nat) (l : List UInt8) (ok : Bool) : List LaM × List UInt8 × Bool := manyG lastG lastR lastO n l ok
/-- What bytes say. -/
structure RdM where
  s : ShM
  n1 : Int
  n2 : Int
  rest : List UInt8
  ok : Bool
def readS (t : List UInt8) : RdM :=
  let c := cellsG (nI (rI t)).toNat (rI (rI t)) (oI (rI t))
  let l := lastsG (nI c.2.1).toNat (rI c.2.1) (oI c.2.1)
  ⟨⟨nI t, c.1, l.1⟩, nI (rI t), nI c.2.1, l.2.1, l.2.2⟩
def getS' (t : List UInt8) : ShM × Int := if 0 ≤ (readS t).n1 ∧ 0 ≤ (readS t).n2 ∧ (readS t).ok = true ∧ (readS t).rest = [] ∧ chkS (readS t).s = true then ((readS t).s, 0) else (shZ, 10)
def rgetS (t : List UInt8) : ShM × Int := if chkS (readS t).s = true ∧ putSB (readS t).s = t then ((readS t).s, 0) else (shZ, 10)
/-- The clients of a shot are six at most, its cells not more than what was appended. -/
theorem riseL_len : ∀ {l : List LaM} {a b : Int}, riseL l → (∀ x ∈ l, a ≤ x.client ∧ x.client < b) → (l.length : Int) ≤ max 0 (b - a)
  | [], _, _, _, _ => by simp; omega
  | x :: r, a, b, h, hb => by
    have h' := List.pairwise_cons.1 h
    have ih := riseL_len (a := x.client + 1) (b := b) h'.2 fun y hy => by
      have := h'.1 y hy
      have := hb y (by simp [hy])
      omega
    have := hb x (by simp)
    simp only [List.length_cons]
    omega
theorem ChkS.len6 {s : ShM} (h : ChkS s) : s.lasts.length ≤ 6 := by
  have := riseL_len (a := 0) (b := 6) h.risesL fun x hx => by
    have hx := h.lastI hx
    have h0 := hx.c0
    have h5 := hx.c5
    omega
  omega
end Go.Proofs.Ytfkbodonidkpoaa
