/-
  A shot behind an entry may be; its bytes, and back. Plain lists, no program in sight but for texts' bytes, no condition.
-/
import Derived.Test.YtfkbodonidkpoaaShM
import Derived.Test.YtfkbodonidkpoaaRise
import Derived.Test.YtfkbodonidkpoaaPL
namespace Go.Proofs.Ytfkbodonidkpoaa
theorem riseK_iff {l : List KC} : riseK l ↔ riseC l := by
  unfold riseK riseC
  constructor <;> intro h <;> refine h.imp fun {a b} h => ?_
  · exact (bytesLess_lt _ _).1 h
  · exact (bytesLess_lt _ _).2 h
theorem insC_mem {l : List KC} {k v : List UInt8} {n : Int} {c : KC} (h : c ∈ insC l k v n) : c = (k, v, n) ∨ c ∈ l := by
  unfold insC at h
  rcases List.mem_append.1 h with h | h
  · rcases List.mem_append.1 h with h | h
    · exact .inr ((List.mem_filter.1 (List.mem_of_mem_take h)).1)
    · exact .inl (by simpa using h)
  · exact .inr ((List.mem_filter.1 (List.mem_of_mem_drop h)).1)
/-- What an operation that may be tells. -/
theorem effM_res (q : Option (List UInt8 × Int)) (n : Int) (o : OpM) (h1 : 1 ≤ n) (h2 : n ≤ 4096) (h3 : chkO o = 0) (hq : ∀ v m, q = some (v, m) → v.length ≤ 64 ∧ 0 ≤ m ∧ m ≤ 4096) :
    (1 ≤ (effM q n o).2.code ∧ (effM q n o).2.code ≤ 3) ∧ (effM q n o).2.value.length ≤ 64 ∧ (0 ≤ (effM q n o).2.version ∧ (effM q n o).2.version ≤ 4096) ∧ (effM q n o).2.pos = n := by
  unfold effM
  rw [if_neg (by omega)]
  have hq' : (q.getD ([], 0)).1.length ≤ 64 ∧ 0 ≤ (q.getD ([], 0)).2 ∧ (q.getD ([], 0)).2 ≤ 4096 := by
    rcases q with _ | ⟨v, m⟩
    · simp
    · exact hq v m rfl
  split
  · rcases q with _ | ⟨v, m⟩
    · exact ⟨⟨by show (1 : Int) ≤ 2; decide, by show (2 : Int) ≤ 3; decide⟩, Nat.zero_le _, ⟨Int.le_refl _, by show (0 : Int) ≤ 4096; decide⟩, rfl⟩
    · exact ⟨⟨Int.le_refl _, by show (1 : Int) ≤ 3; decide⟩, hq'.1, hq'.2, rfl⟩
  split
  · rcases q with _ | ⟨v, m⟩
    · exact ⟨⟨by show (1 : Int) ≤ 2; decide, by show (2 : Int) ≤ 3; decide⟩, Nat.zero_le _, ⟨Int.le_refl _, by show (0 : Int) ≤ 4096; decide⟩, rfl⟩
    · exact ⟨⟨Int.le_refl _, by show (1 : Int) ≤ 3; decide⟩, Nat.zero_le _, ⟨Int.le_refl _, by show (0 : Int) ≤ 4096; decide⟩, rfl⟩
  split
  · exact ⟨⟨by show (1 : Int) ≤ 3; decide, Int.le_refl _⟩, hq'.1, hq'.2, rfl⟩
  · exact ⟨⟨Int.le_refl _, by show (1 : Int) ≤ 3; decide⟩, Nat.zero_le _, ⟨by show 0 ≤ n; omega, h2⟩, rfl⟩
theorem eff_put_is {q : Option (List UInt8 × Int)} {n : Int} {o : OpM} {v : List UInt8} {m : Int} (h : (effM q n o).1 = .put v m) : v = o.value ∧ m = n ∧ chkO o = 0 := by
  unfold effM at h
  split at h
  · cases h
  rename_i h0
  split at h
  · cases h
  split at h
  · rcases q with _ | _ <;> cases h
  split at h
  · cases h
  · cases h
    exact ⟨rfl, rfl, Classical.byContradiction fun h' => h0 (.inr (.inr h'))⟩
theorem CellI.mono {n m : Int} {c : KC} (h : CellI n c) (hm : n ≤ m) : CellI m c := ⟨h.k1, h.k16, h.v64, h.n1, Int.le_trans h.nn hm⟩
theorem LastI.mono {n m : Int} {c : LaM} (h : LastI n c) (hm : n ≤ m) : LastI m c := ⟨h.c0, h.c5, h.s1, h.sn, h.r1, h.r3, h.v64, h.n0, h.n4, h.p1, Int.le_trans h.pn hm⟩
theorem nextS_ok {s : ShM} {e : EntM} (h : ErrS0 s e) : ChkS (nextS s e) := by
  have hi := h.index
  have hr := h.room
  have hs := h.chk
  have hlo := hs.lo
  have ho := chkO_0.1 h.op
  refine ChkS.mk' (by show 0 ≤ e.index; omega) (by show e.index ≤ 4096; omega) ?_ (putL_rise hs.risesL) (fun c hc => ?_) (fun c hc => ?_)
  · exact riseK_iff.2 (riseC_apply _ _ (riseK_iff.1 hs.rise))
  · show CellI e.index c
    have hold : ∀ c ∈ s.cells, CellI e.index c := fun c hc => (hs.cellI hc).mono (by omega)
    have hc' : c ∈ effD s.cells e.op.key (effM (findC s.cells e.op.key) e.index e.op).1 := hc
    rcases hq : (effM (findC s.cells e.op.key) e.index e.op).1 with _ | _ | ⟨v, m⟩
    · rw [hq] at hc'; exact hold c hc'
    · rw [hq] at hc'; exact hold c ((List.mem_filter.1 hc').1)
    · rw [hq] at hc'
      obtain ⟨rfl, rfl, _⟩ := eff_put_is hq
      rcases insC_mem hc' with rfl | hc'
      · have hk : 1 ≤ e.op.key.length := List.length_pos_iff.2 ho.2.2.1
        exact ⟨hk, ho.2.2.2.2.2.2.2.1, ho.2.2.2.2.2.2.2.2, by show 1 ≤ e.index; omega, Int.le_refl _⟩
      · exact hold c hc'
  · show LastI e.index c
    rcases putL_mem hc with rfl | hc
    · have := effM_res (findC s.cells e.op.key) e.index e.op (by omega) (by omega) h.op fun v m hv => by
        have := hs.cellI (findC_mem hv)
        have h1 := this.v64
        have h2 := this.n1
        have h3 := this.nn
        simp only at h1 h2 h3
        exact ⟨h1, by omega, by omega⟩
      obtain ⟨⟨r1, r3⟩, v64, ⟨n0, n4⟩, hp⟩ := this
      refine ⟨h.c0, h.c5, h.s1, h.sn, r1, r3, v64, n0, n4, ?_, ?_⟩
      · show 1 ≤ (effM (findC s.cells e.op.key) e.index e.op).2.pos
        omega
      · show (effM (findC s.cells e.op.key) e.index e.op).2.pos ≤ e.index
        omega
    · exact (hs.lastI hc).mono (by omega)
/-! The bytes. -/
def cellB (c : KC) : List UInt8 := textB c.1 ++ textB c.2.1 ++ intB c.2.2
def lastB (x : LaM) : List UInt8 := intB x.client ++ intB x.seq ++ intB x.res.code ++ textB x.res.value ++ intB x.res.version ++ intB x.res.pos
def cellsB : List KC → List UInt8
  | [] => []
  | c :: r => cellB c ++ cellsB r
def lastsB : List LaM → List UInt8
  | [] => []
  | c :: r => lastB c ++ lastsB r
def putSB (s : ShM) : List UInt8 := intB s.index ++ intB s.cells.length ++ cellsB s.cells ++ intB s.lasts.length ++ lastsB s.lasts
def putS (s : ShM) : List UInt8 × Int := if chkS s then (putSB s, 0) else ([], 2)
abbrev nI (l : List UInt8) : Int := uN (unintB l)
abbrev rI (l : List UInt8) : List UInt8 := rR (unintB l)
abbrev oI (l : List UInt8) : Bool := (unintB l).isSome
abbrev nT (l : List UInt8) : List UInt8 := cN (cutB l)
abbrev rT (l : List UInt8) : List UInt8 := rR (cutB l)
abbrev oT (l : List UInt8) : Bool := (cutB l).isSome
def cellG (l : List UInt8) : KC := (nT l, nT (rT l), nI (rT (rT l)))
def cellR (l : List UInt8) : List UInt8 := rI (rT (rT l))
def cellO (l : List UInt8) : Bool := oI (rT (rT l))
def lastG (l : List UInt8) : LaM := ⟨nI l, nI (rI l), ⟨nI (rI (rI l)), nT (rI (rI (rI l))), nI (rT (rI (rI (rI l)))), nI (rI (rT (rI (rI (rI l)))))⟩⟩
def lastR (l : List UInt8) : List UInt8 := rI (rI (rT (rI (rI (rI l)))))
def lastO (l : List UInt8) : Bool := oI (rI (rT (rI (rI (rI l)))))
/-- So many, as long as all goes well. -/
def manyG {α : Type} (g : List UInt8 → α) (r : List UInt8 → List UInt8) (o : List UInt8 → Bool) : Nat → List UInt8 → Bool → List α × List UInt8 × Bool
  | 0, l, ok => ([], l, ok)
  | n + 1, l, ok => if ok then (g l :: (manyG g r o n (r l) (o l)).1, (manyG g r o n (r l) (o l)).2) else ([], l, ok)
theorem manyG_no {α : Type} (g : List UInt8 → α) (r : List UInt8 → List UInt8) (o : List UInt8 → Bool) (n : Nat) (l : List UInt8) : manyG g r o n l false = ([], l, false) := by
  cases n <;> rfl
theorem manyG_yes {α : Type} (g : List UInt8 → α) (r : List UInt8 → List UInt8) (o : List UInt8 → Bool) (n : Nat) (l : List UInt8) : manyG g r o (n + 1) l true = (g l :: (manyG g r o n (r l) (o l)).1, (manyG g r o n (r l) (o l)).2) := rfl
abbrev cellsG (n : Nat) (l : List UInt8) (ok : Bool) : List KC × List UInt8 × Bool := manyG cellG cellR cellO n l ok
abbrev lastsG (n : Nat) (l : List UInt8) (ok : Bool) : List LaM × List UInt8 × Bool := manyG lastG lastR lastO n l ok
/-- What bytes say. -/
structure RdM where
  s : ShM
  n1 : Int
  n2 : Int
  rest : List UInt8
  ok : Bool
def readS (t : List UInt8) : RdM :=
  let c := cellsG (nI (rI t)).toNat (rI (rI t)) (oI (rI t))
  let l := lastsG (nI c.2.1).toNat (rI c.2.1) (oI c.2.1)
  ⟨⟨nI t, c.1, l.1⟩, nI (rI t), nI c.2.1, l.2.1, l.2.2⟩
def getS' (t : List UInt8) : ShM × Int := if 0 ≤ (readS t).n1 ∧ 0 ≤ (readS t).n2 ∧ (readS t).ok = true ∧ (readS t).rest = [] ∧ chkS (readS t).s = true then ((readS t).s, 0) else (shZ, 10)
def rgetS (t : List UInt8) : ShM × Int := if chkS (readS t).s = true ∧ putSB (readS t).s = t then ((readS t).s, 0) else (shZ, 10)
theorem oI_no {l : List UInt8} (h : oI l = false) : rI l = [] ∧ nI l = 0 := by
  unfold oI at h
  rcases hu : unintB l with _ | p
  · simp [rI, nI, hu, rR, uN]
  · rw [hu] at h; cases h
theorem oT_no {l : List UInt8} (h : oT l = false) : rT l = [] ∧ nT l = [] := by
  unfold oT at h
  rcases hu : cutB l with _ | p
  · simp [rT, nT, hu, rR, cN]
  · rw [hu] at h; cases h
theorem oI_nil : oI [] = false := by simp [oI, unintB, readB]
theorem oT_nil : oT [] = false := by simp [oT, cutB, readB]
theorem oI_yes {l : List UInt8} (h : oI l = true) : l = intB (nI l) ++ rI l ∧ -1 ≤ nI l ∧ nI l ≤ 1099511627776 := by
  unfold oI at h
  rcases hu : unintB l with _ | ⟨n, r⟩
  · rw [hu] at h; cases h
  · have := unintB_form hu
    simp only [nI, rI, hu, uN, rR]
    exact ⟨this.1.symm, this.2⟩
theorem oT_yes {l : List UInt8} (h : oT l = true) : l = textB (nT l) ++ rT l := by
  unfold oT at h
  rcases hu : cutB l with _ | ⟨n, r⟩
  · rw [hu] at h; cases h
  · simp only [nT, rT, hu, cN, rR]
    exact (cutB_form hu).symm
theorem cell_ok {l : List UInt8} (h : cellO l = true) : oT l = true ∧ oT (rT l) = true ∧ oI (rT (rT l)) = true := by
  have h2 : oT (rT l) = true := by
    rcases h2 : oT (rT l) with _ | _
    · unfold cellO at h
      rw [(oT_no h2).1, oI_nil] at h; cases h
    · rfl
  refine ⟨?_, h2, h⟩
  rcases h1 : oT l with _ | _
  · rw [(oT_no h1).1, oT_nil] at h2; cases h2
  · rfl
theorem last_ok {l : List UInt8} (h : lastO l = true) : (oI l = true ∧ oI (rI l) = true ∧ oI (rI (rI l)) = true) ∧ oT (rI (rI (rI l))) = true ∧ oI (rT (rI (rI (rI l)))) = true ∧ oI (rI (rT (rI (rI (rI l))))) = true := by
  have h5 : oI (rT (rI (rI (rI l)))) = true := by
    rcases h2 : oI (rT (rI (rI (rI l)))) with _ | _
    · unfold lastO at h
      rw [(oI_no h2).1, oI_nil] at h; cases h
    · rfl
  have h4 : oT (rI (rI (rI l))) = true := by
    rcases h2 : oT (rI (rI (rI l))) with _ | _
    · rw [(oT_no h2).1, oI_nil] at h5; cases h5
    · rfl
  have h3 : oI (rI (rI l)) = true := by
    rcases h2 : oI (rI (rI l)) with _ | _
    · rw [(oI_no h2).1, oT_nil] at h4; cases h4
    · rfl
  have h2 : oI (rI l) = true := by
    rcases h2 : oI (rI l) with _ | _
    · rw [(oI_no h2).1, oI_nil] at h3; cases h3
    · rfl
  have h1 : oI l = true := by
    rcases h1 : oI l with _ | _
    · rw [(oI_no h1).1, oI_nil] at h2; cases h2
    · rfl
  exact ⟨⟨h1, h2, h3⟩, h4, h5, h⟩
theorem cell_form {l : List UInt8} (h : cellO l = true) : l = cellB (cellG l) ++ cellR l := by
  obtain ⟨h1, h2, h3⟩ := cell_ok h
  have e1 := oT_yes h1
  have e2 := oT_yes h2
  have e3 := (oI_yes h3).1
  unfold cellB cellG cellR
  simp only [List.append_assoc]
  rw [← e3, ← e2, ← e1]
theorem last_form {l : List UInt8} (h : lastO l = true) : l = lastB (lastG l) ++ lastR l := by
  obtain ⟨⟨h1, h2, h3⟩, h4, h5, h6⟩ := last_ok h
  have e1 := (oI_yes h1).1
  have e2 := (oI_yes h2).1
  have e3 := (oI_yes h3).1
  have e4 := oT_yes h4
  have e5 := (oI_yes h5).1
  have e6 := (oI_yes h6).1
  unfold lastB lastG lastR
  simp only [List.append_assoc]
  rw [← e6, ← e5, ← e4, ← e3, ← e2, ← e1]
theorem cells_form : ∀ (n : Nat) (l : List UInt8) (ok : Bool), (cellsG n l ok).2.2 = true → ok = true ∧ l = cellsB (cellsG n l ok).1 ++ (cellsG n l ok).2.1 ∧ (cellsG n l ok).1.length = n
  | 0, l, ok, h => ⟨h, rfl, rfl⟩
  | n + 1, l, false, h => by cases h
  | n + 1, l, true, h => by
    unfold cellsG at h ⊢
    rw [manyG_yes] at h ⊢
    obtain ⟨h1, h2, h3⟩ := cells_form n _ _ h
    refine ⟨rfl, ?_, by simp only [List.length_cons]; rw [h3]⟩
    simp only [cellsB, List.append_assoc]
    rw [← h2]
    exact cell_form h1
theorem lasts_form : ∀ (n : Nat) (l : List UInt8) (ok : Bool), (lastsG n l ok).2.2 = true → ok = true ∧ l = lastsB (lastsG n l ok).1 ++ (lastsG n l ok).2.1 ∧ (lastsG n l ok).1.length = n
  | 0, l, ok, h => ⟨h, rfl, rfl⟩
  | n + 1, l, false, h => by cases h
  | n + 1, l, true, h => by
    unfold lastsG at h ⊢
    rw [manyG_yes] at h ⊢
    obtain ⟨h1, h2, h3⟩ := lasts_form n _ _ h
    refine ⟨rfl, ?_, by simp only [List.length_cons]; rw [h3]⟩
    simp only [lastsB, List.append_assoc]
    rw [← h2]
    exact last_form h1
theorem manyG_rest {α : Type} {g : List UInt8 → α} {r : List UInt8 → List UInt8} {o : List UInt8 → Bool} (hr : ∀ l, o l = false → r l = []) : ∀ (n : Nat) (l : List UInt8) (ok : Bool), (ok = false → l = []) → (manyG g r o n l ok).2.2 = false → (manyG g r o n l ok).2.1 = []
  | 0, _, _, hl, h => hl h
  | _ + 1, l, false, hl, _ => by rw [manyG_no]; exact hl rfl
  | n + 1, l, true, _, h => by
    rw [manyG_yes] at h ⊢
    exact manyG_rest hr n _ _ (hr l) h
theorem cells_rest (n : Nat) (l : List UInt8) (ok : Bool) (hl : ok = false → l = []) (h : (cellsG n l ok).2.2 = false) : (cellsG n l ok).2.1 = [] := manyG_rest (fun _ h => (oI_no h).1) n l ok hl h
/-- What is got is put as it stood. -/
theorem get_form {t : List UInt8} (h1 : 0 ≤ (readS t).n1) (h2 : 0 ≤ (readS t).n2) (h3 : (readS t).ok = true) (h4 : (readS t).rest = []) : putSB (readS t).s = t := by
  obtain ⟨a1, a2, a3⟩ := lasts_form _ _ _ h3
  have b := oI_yes a1
  have hc : (cellsG (nI (rI t)).toNat (rI (rI t)) (oI (rI t))).2.2 = true := by
    rcases hc : (cellsG (nI (rI t)).toNat (rI (rI t)) (oI (rI t))).2.2 with _ | _
    · exfalso
      have : (cellsG (nI (rI t)).toNat (rI (rI t)) (oI (rI t))).2.1 = [] := cells_rest _ _ _ (fun h => (oI_no h).1) hc
      rw [this, oI_nil] at a1; cases a1
    · rfl
  obtain ⟨c1, c2, c3⟩ := cells_form _ _ _ hc
  have d := oI_yes c1
  have h0 : oI t = true := by
    rcases h0 : oI t with _ | _
    · rw [(oI_no h0).1, oI_nil] at c1; cases c1
    · rfl
  have e := oI_yes h0
  have e4 : (lastsG (nI (cellsG (nI (rI t)).toNat (rI (rI t)) (oI (rI t))).2.1).toNat (rI (cellsG (nI (rI t)).toNat (rI (rI t)) (oI (rI t))).2.1) (oI (cellsG (nI (rI t)).toNat (rI (rI t)) (oI (rI t))).2.1)).2.1 = [] := h4
  rw [e4, List.append_nil] at a2
  have l1 : (((readS t).s.cells.length : Nat) : Int) = nI (rI t) := by
    show (((cellsG (nI (rI t)).toNat (rI (rI t)) (oI (rI t))).1.length : Nat) : Int) = _
    rw [c3]; exact Int.toNat_of_nonneg h1
  have l2 : (((readS t).s.lasts.length : Nat) : Int) = nI (cellsG (nI (rI t)).toNat (rI (rI t)) (oI (rI t))).2.1 := by
    show (((lastsG _ _ _).1.length : Nat) : Int) = _
    rw [a3]; exact Int.toNat_of_nonneg h2
  unfold putSB
  rw [l1, l2]
  show intB (nI t) ++ intB (nI (rI t)) ++ cellsB (cellsG (nI (rI t)).toNat (rI (rI t)) (oI (rI t))).1 ++ intB (nI (cellsG (nI (rI t)).toNat (rI (rI t)) (oI (rI t))).2.1) ++ lastsB (lastsG _ _ _).1 = t
  simp only [List.append_assoc]
  rw [← a2, ← b.1, ← c2, ← d.1, ← e.1]
theorem nI_put {n : Int} (h1 : -1 ≤ n) (h2 : n ≤ 1099511627776) (t : List UInt8) : nI (intB n ++ t) = n ∧ rI (intB n ++ t) = t ∧ oI (intB n ++ t) = true := by
  simp only [nI, rI, oI, unintB_int n h1 h2 t, uN, rR, Option.isSome_some, and_self]
theorem nT_put {s : List UInt8} (h : s.length ≤ 1000) (t : List UInt8) : nT (textB s ++ t) = s ∧ rT (textB s ++ t) = t ∧ oT (textB s ++ t) = true := by
  simp only [nT, rT, oT, cutB_text s t (by omega), cN, rR, Option.isSome_some, and_self]
theorem cell_put {n : Int} {c : KC} (h : CellI n c) (hn : n ≤ 4096) (t : List UInt8) : cellG (cellB c ++ t) = c ∧ cellR (cellB c ++ t) = t ∧ cellO (cellB c ++ t) = true := by
  have h1 := h.k16
  have h2 := h.v64
  have h3 := h.n1
  have h4 := h.nn
  unfold cellG cellR cellO cellB
  simp only [List.append_assoc]
  obtain ⟨a1, a2, _⟩ := nT_put (s := c.1) (by omega) (textB c.2.1 ++ (intB c.2.2 ++ t))
  obtain ⟨b1, b2, _⟩ := nT_put (s := c.2.1) (by omega) (intB c.2.2 ++ t)
  obtain ⟨c1, c2, c3⟩ := nI_put (n := c.2.2) (by omega) (by omega) t
  rw [a1, a2, b1, b2, c1, c2, c3]
  exact ⟨rfl, rfl, rfl⟩
theorem last_put {n : Int} {x : LaM} (h : LastI n x) (hn : n ≤ 4096) (t : List UInt8) : lastG (lastB x ++ t) = x ∧ lastR (lastB x ++ t) = t ∧ lastO (lastB x ++ t) = true := by
  obtain ⟨c0, c5, s1, sn, r1, r3, v64, n0, n4, p1, pn⟩ := h
  unfold lastG lastR lastO lastB
  simp only [List.append_assoc]
  obtain ⟨a1, a2, _⟩ := nI_put (n := x.client) (by omega) (by omega) (intB x.seq ++ (intB x.res.code ++ (textB x.res.value ++ (intB x.res.version ++ (intB x.res.pos ++ t)))))
  obtain ⟨b1, b2, _⟩ := nI_put (n := x.seq) (by omega) (by omega) (intB x.res.code ++ (textB x.res.value ++ (intB x.res.version ++ (intB x.res.pos ++ t))))
  obtain ⟨d1, d2, _⟩ := nI_put (n := x.res.code) (by omega) (by omega) (textB x.res.value ++ (intB x.res.version ++ (intB x.res.pos ++ t)))
  obtain ⟨e1, e2, _⟩ := nT_put (s := x.res.value) (by omega) (intB x.res.version ++ (intB x.res.pos ++ t))
  obtain ⟨f1, f2, _⟩ := nI_put (n := x.res.version) (by omega) (by omega) (intB x.res.pos ++ t)
  obtain ⟨g1, g2, g3⟩ := nI_put (n := x.res.pos) (by omega) (by omega) t
  rw [a1, a2, b1, b2, d1, d2, e1, e2, f1, f2, g1, g2, g3]
  exact ⟨rfl, rfl, rfl⟩
theorem cells_put {n : Int} (hn : n ≤ 4096) (t : List UInt8) : ∀ (cs : List KC), (∀ c ∈ cs, CellI n c) → cellsG cs.length (cellsB cs ++ t) true = (cs, t, true)
  | [], _ => rfl
  | c :: r, h => by
    obtain ⟨h1, h2, h3⟩ := cell_put (h c (by simp)) hn (cellsB r ++ t)
    have ih := cells_put hn t r fun c hc => h c (by simp [hc])
    unfold cellsG at ih ⊢
    simp only [List.length_cons, cellsB, List.append_assoc]
    rw [manyG_yes, h1, h2, h3, ih]
theorem lasts_put {n : Int} (hn : n ≤ 4096) (t : List UInt8) : ∀ (cs : List LaM), (∀ c ∈ cs, LastI n c) → lastsG cs.length (lastsB cs ++ t) true = (cs, t, true)
  | [], _ => rfl
  | c :: r, h => by
    obtain ⟨h1, h2, h3⟩ := last_put (h c (by simp)) hn (lastsB r ++ t)
    have ih := lasts_put hn t r fun c hc => h c (by simp [hc])
    unfold lastsG at ih ⊢
    simp only [List.length_cons, lastsB, List.append_assoc]
    rw [manyG_yes, h1, h2, h3, ih]
/-- The clients of a shot are six at most, its cells not more than what was appended. -/
theorem riseL_len : ∀ {l : List LaM} {a b : Int}, riseL l → (∀ x ∈ l, a ≤ x.client ∧ x.client < b) → (l.length : Int) ≤ max 0 (b - a)
  | [], _, _, _, _ => by simp; omega
  | x :: r, a, b, h, hb => by
    have h' := List.pairwise_cons.1 h
    have ih := riseL_len (a := x.client + 1) (b := b) h'.2 fun y hy => by
      have := h'.1 y hy
      have := hb y (by simp [hy])
      omega
    have := hb x (by simp)
    simp only [List.length_cons]
    omega
theorem ChkS.len6 {s : ShM} (h : ChkS s) : s.lasts.length ≤ 6 := by
  have := riseL_len (a := 0) (b := 6) h.risesL fun x hx => by
    have hx := h.lastI hx
    have h0 := hx.c0
    have h5 := hx.c5
    omega
  omega
theorem readS_put {s : ShM} (h : ChkS s) (hl : s.cells.length ≤ 1099511627776) (t : List UInt8) : readS (putSB s ++ t) = ⟨s, s.cells.length, s.lasts.length, t, true⟩ := by
  have h6 := h.len6
  have hlo := h.lo
  have hhi := h.hi
  unfold readS putSB
  simp only [List.append_assoc]
  obtain ⟨a1, a2, _⟩ := nI_put (n := s.index) (by omega) (by omega) (intB s.cells.length ++ (cellsB s.cells ++ (intB s.lasts.length ++ (lastsB s.lasts ++ t))))
  obtain ⟨b1, b2, b3⟩ := nI_put (n := s.cells.length) (by omega) (by omega) (cellsB s.cells ++ (intB s.lasts.length ++ (lastsB s.lasts ++ t)))
  obtain ⟨c1, c2, c3⟩ := nI_put (n := s.lasts.length) (by omega) (by omega) (lastsB s.lasts ++ t)
  rw [a1, a2, b1, b2, b3, Int.toNat_natCast, cells_put hhi _ _ (fun c hc => h.cellI hc)]
  simp only [c1, c2, c3, Int.toNat_natCast]
  rw [lasts_put hhi _ _ (fun c hc => h.lastI hc)]
theorem rgetS_eq (t : List UInt8) (ht : t.length ≤ 1000000) : rgetS t = getS' t := by
  unfold rgetS getS'
  by_cases h : chkS (readS t).s = true ∧ putSB (readS t).s = t
  · have hc := chkS_iff.1 h.1
    have hl : (readS t).s.cells.length ≤ 1099511627776 := by
      have h1 := cellsB_len (readS t).s.cells
      have h2 : (cellsB (readS t).s.cells).length ≤ (putSB (readS t).s).length := by
        simp only [putSB, List.length_append]
        omega
      rw [h.2] at h2
      omega
    have hr := readS_put hc hl []
    rw [List.append_nil, h.2] at hr
    have e1 : (readS t).n1 = (readS t).s.cells.length := by rw [hr]
    have e2 : (readS t).n2 = (readS t).s.lasts.length := by rw [hr]
    have e3 : (readS t).ok = true := by rw [hr]
    have e4 : (readS t).rest = [] := by rw [hr]
    rw [if_pos h, if_pos ⟨by rw [e1]; omega, by rw [e2]; omega, e3, e4, h.1⟩]
  · rw [if_neg h, if_neg]
    rintro ⟨h1, h2, h3, h4, h5⟩
    exact h ⟨h5, get_form h1 h2 h3 h4⟩
where cellsB_len : ∀ (cs : List KC), cs.length ≤ (cellsB cs).length
  | [] => Nat.le_refl _
  | c :: r => by
    have := cellsB_len r
    have h3 : 1 ≤ (numL c.1.length).length := by unfold numL; split <;> simp
    simp only [cellsB, cellB, textB, List.length_cons, List.length_append]
    omega
end Go.Proofs.Ytfkbodonidkpoaa
