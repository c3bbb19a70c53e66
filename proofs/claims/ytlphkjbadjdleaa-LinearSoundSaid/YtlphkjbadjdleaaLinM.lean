/-
  Calls held against the log of all that was done: plain lists. No program in sight, no condition.
-/
import Derived.Test.YtlphkjbadjdleaaRefM
namespace Go.Proofs.Ytlphkjbadjdleaa
/-- A call, and what came of it. -/
structure RecM where
  client : Int
  seq : Int
  op : OpM
  frm : Int
  upto : Int
  okind : Int
  why : Int
  res : ResM
  deriving DecidableEq
def recC (r : RecM) : List Value := [.int .i64 r.client, .int .i64 r.seq, .int .i64 r.op.kind, S r.op.key, S r.op.value, .int .i64 r.op.version, .int .i64 r.frm, .int .i64 r.upto, .int .i64 r.okind, .int .i64 r.why, .int .i64 r.res.code, S r.res.value, .int .i64 r.res.version, .int .i64 r.res.pos]
def recZ : RecM := ⟨0, 0, ⟨0, [], [], 0⟩, 0, 0, 0, 0, resZ⟩
def readsO (o : OpM) : Bool := o.kind == 1 && chkO o == 0
/-- What keys have behind so many entries, and what an entry did. -/
def storeN (d : List EntM) : Nat → List KC
  | 0 => []
  | i + 1 => (applyM (storeN d i) ((i : Int) + 1) (d.getD i entZ).op).1
def didN (d : List EntM) (i : Nat) : ResM := (applyM (storeN d i) ((i : Int) + 1) (d.getD i entZ).op).2
def readN (d : List EntM) (k : List UInt8) (i : Nat) : ResM := lookM (findC (storeN d i) k) i
theorem storeN_uni (d : List EntM) : ∀ i, uniC (storeN d i)
  | 0 => by simp [storeN, uniC]
  | i + 1 => uniC_apply _ _ (storeN_uni d i)
theorem storeN_app (d e : List EntM) : ∀ i, i ≤ d.length → storeN (d ++ e) i = storeN d i
  | 0, _ => rfl
  | i + 1, h => by
    simp only [storeN]
    rw [storeN_app d e i (by omega), getD_app (by omega)]
theorem didN_app {d e : List EntM} {i : Nat} (h : i < d.length) : didN (d ++ e) i = didN d i := by
  simp only [didN]
  rw [storeN_app d e i (by omega), getD_app h]
theorem readN_app {d e : List EntM} {k : List UInt8} {i : Nat} (h : i ≤ d.length) : readN (d ++ e) k i = readN d k i := by
  simp only [readN]
  rw [storeN_app d e i h]
/-- The document's way to what a key has: a step over one entry. -/
def lookStep (key : List UInt8) (n : Int) (i : Nat) (o : OpM) (r : ResM) : ResM :=
  if ¬ o.key = key ∨ ¬ chkO o = 0 then r
  else
    let r1 := if o.kind = 2 ∨ (o.kind = 4 ∧ o.version = r.version) then ⟨1, o.value, (i : Int) + 1, n⟩ else r
    if o.kind = 3 then ⟨2, [], 0, n⟩ else r1
theorem lookM_ver (q : Option (List UInt8 × Int)) (n : Int) : (lookM q n).version = (q.getD ([], 0)).2 := by
  cases q with
  | none => rfl
  | some x => obtain ⟨v, m⟩ := x; rfl
theorem lookStep_eq {d : List EntM} {key : List UInt8} {n : Int} {i : Nat} (hi : i < 4096) :
    lookStep key n i (d.getD i entZ).op (lookM (findC (storeN d i) key) n) = lookM (findC (storeN d (i + 1)) key) n := by
  have hu := storeN_uni d i
  generalize ho : (d.getD i entZ).op = o
  have hs : storeN d (i + 1) = effC (storeN d i) o.key (effM (findC (storeN d i) o.key) ((i : Int) + 1) o).1 := by
    rw [← ho]; rfl
  rw [hs]
  generalize storeN d i = cs at hu
  unfold lookStep
  by_cases hc : chkO o = 0
  · have h1 : ¬ ((i : Int) + 1 < 1 ∨ 4096 < (i : Int) + 1 ∨ ¬ chkO o = 0) := by omega
    obtain ⟨k1, k2, _⟩ := chkO_0.1 hc
    by_cases hk : o.key = key
    · subst hk
      have h2 : ¬ ((i : Int) + 1 < 1 ∨ 4096 < (i : Int) + 1) := by omega
      simp only [hc, not_true_eq_false, or_self, or_false, if_false, effM, h2, lookM_ver]
      by_cases e1 : o.kind = 1
      · simp [e1, effC]
      · by_cases e3 : o.kind = 3
        · cases hf : findC cs o.key with
          | none => simp [e3, effC, hf, lookM]
          | some q => simp [e3, effC, findC_del _ _ _ hu, lookM]
        · by_cases e4 : o.kind = 4
          · by_cases ev : o.version = ((findC cs o.key).getD ([], 0)).2
            · simp [e4, ← ev, effC, findC_set, lookM]
            · have ev' : ¬ ((findC cs o.key).getD ([], 0)).2 = o.version := fun e => ev e.symm
              simp [e4, ev, ev', effC]
          · have e2 : o.kind = 2 := by omega
            simp [e2, effC, findC_set, lookM]
    · have hk' : ¬ key = o.key := fun e => hk e.symm
      simp only [hk, not_false_eq_true, true_or, if_true]
      congr 1
      cases (effM (findC cs o.key) ((i : Int) + 1) o).1 with
      | stay => rfl
      | gone => simp [effC, findC_del _ _ _ hu, hk']
      | put v m => simp [effC, findC_set, hk']
  · simp [hc, effM, effC]
/-- Where the entries of a client and Seq stand. -/
def isOf (c s : Int) (e : EntM) : Bool := e.client == c && e.seq == s
def firstN (d : List EntM) (c s : Int) : Option Nat := d.findIdx? (isOf c s)
def countN (d : List EntM) (c s : Int) : Nat := (d.filter (isOf c s)).length
def isReadM (d : List EntM) (r : RecM) : Bool := readsO r.op && (r.okind == 1 && (decide (0 ≤ r.res.pos) && decide (r.res.pos ≤ d.length)))
/-- A record's place. -/
def placeM (d : List EntM) (r : RecM) : Int :=
  if readsO r.op then (if isReadM d r then 2 * r.res.pos + 1 else -1)
  else match firstN d r.client r.seq with
    | some i => 2 * i + 2
    | none => -1
/-- Does it hold, but for its place? -/
def toldM (d : List EntM) (r : RecM) : Bool :=
  if readsO r.op then (if r.okind = 1 then isReadM d r && decide (readN d r.op.key r.res.pos.toNat = r.res) else true)
  else match firstN d r.client r.seq with
    | none => decide (r.okind ≠ 1)
    | some i => decide (countN d r.client r.seq = 1) && (decide ((d.getD i entZ).op = r.op) && (decide (r.okind ≠ 2) && (decide (r.okind ≠ 1) || decide (didN d i = r.res))))
/-- Was one over ahead of its begin, that stands behind it? -/
def lateM (d : List EntM) (r q : RecM) : Bool := decide (q.okind = 1 ∧ 0 ≤ q.upto ∧ q.upto < r.frm ∧ placeM d r < placeM d q)
def holdsM (l : List RecM) (d : List EntM) (r : RecM) : Bool := toldM d r && (decide (placeM d r = -1) || l.all fun q => !lateM d r q)
/-- May a log be? -/
def entOK (l : List RecM) (d : List EntM) (i : Nat) (e : EntM) : Bool :=
  decide (e.index = (i : Int) + 1) && (decide (chkO e.op = 0) && (!readsO e.op && (decide (countN d e.client e.seq = 1) && l.any fun r => decide (r.client = e.client ∧ r.seq = e.seq ∧ r.op = e.op))))
def mayM (l : List RecM) (d : List EntM) : Bool := (List.range d.length).all fun i => entOK l d i (d.getD i entZ)
/-- The first that does not hold; how many there are, if the log may not be; -1: none. -/
def chkL (l : List RecM) (d : List EntM) : Int := match l.findIdx? (fun r => !holdsM l d r) with
  | some i => i
  | none => if mayM l d then -1 else l.length
theorem chkL_ok {l : List RecM} {d : List EntM} : chkL l d = -1 ↔ (∀ r ∈ l, holdsM l d r = true) ∧ mayM l d = true := by
  unfold chkL
  cases h : l.findIdx? (fun r => !holdsM l d r) with
  | some i =>
    refine ⟨fun e => by simp at e, fun ⟨h1, _⟩ => ?_⟩
    obtain ⟨hl, hb, _⟩ := List.findIdx?_eq_some_iff_getElem.1 h
    have := h1 _ (List.getElem_mem hl)
    simp [this] at hb
  | none =>
    have hn := List.findIdx?_eq_none_iff.1 h
    refine ⟨fun e => ⟨fun r hr => by simpa using hn r hr, ?_⟩, fun ⟨_, h2⟩ => by simp [h2]⟩
    by_cases hm : mayM l d = true
    · exact hm
    · simp only [hm, Bool.false_eq_true, if_false] at e
      omega
end Go.Proofs.Ytlphkjbadjdleaa
