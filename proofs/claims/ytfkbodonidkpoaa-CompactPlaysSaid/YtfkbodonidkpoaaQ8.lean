/-
  What the document's store and log do: plain lists. No program in sight, no condition. The document's cells rise by their keys. Plain. A shot: what it is, when it may be, what it tells, what an entry leads to. Plain lists, no program in sight, no condition. No condition.
-/
import Derived.Test.YtfkbodonidkpoaaQ7
namespace Go.Proofs.Ytfkbodonidkpoaa
def celZ : KC := ([], [], 0)
/-- The cells without a key's. -/
def dropC (cs : List KC) (k : List UInt8) : List KC := cs.filter fun c => !(c.1 == k)
/-- Where a key stands. -/
def placeC : List KC → List UInt8 → Nat
  | [], _ => 0
  | c :: r, k => if Op.bytesLess c.1 k = true then placeC r k + 1 else 0
def insC (cs : List KC) (k v : List UInt8) (n : Int) : List KC := (dropC cs k).take (placeC (dropC cs k) k) ++ [(k, v, n)] ++ (dropC cs k).drop (placeC (dropC cs k) k)
def effD (cs : List KC) (k : List UInt8) : Eff → List KC
  | .stay => cs
  | .gone => dropC cs k
  | .put v n => insC cs k v n
def applyD (cs : List KC) (n : Int) (o : OpM) : List KC × ResM := (effD cs o.key (effM (findC cs o.key) n o).1, (effM (findC cs o.key) n o).2)
theorem placeC_le : ∀ (cs : List KC) (k : List UInt8), placeC cs k ≤ cs.length
  | [], _ => Nat.le_refl _
  | c :: r, k => by
    have := placeC_le r k
    unfold placeC
    split <;> simp <;> omega
theorem dropC_len (cs : List KC) (k : List UInt8) : (dropC cs k).length ≤ cs.length := List.length_filter_le _ _
theorem findC_drop : ∀ (cs : List KC) (k k' : List UInt8), findC (dropC cs k) k' = if k' = k then none else findC cs k'
  | [], _, _ => by simp [dropC, findC]
  | c :: r, k, k' => by
    have ih := findC_drop r k k'
    unfold dropC at ih ⊢
    by_cases h : c.1 = k
    · simp only [List.filter, h, beq_self_eq_true, Bool.not_true]
      rw [ih]
      simp only [findC]
      split
      · rfl
      · rw [if_neg (by rw [h]; exact fun e => by simp_all)]
    · have hb : (!(c.1 == k)) = true := by simpa using h
      simp only [List.filter, hb, findC]
      rw [ih]
      by_cases h' : c.1 = k'
      · rw [if_pos h', if_neg (by rw [← h']; exact h), if_pos h']
      · rw [if_neg h', if_neg h']
theorem findC_app : ∀ (a b : List KC) (k : List UInt8), findC (a ++ b) k = (findC a k).orElse fun _ => findC b k
  | [], _, _ => by simp [findC]
  | c :: r, b, k => by
    simp only [List.cons_append, findC]
    split
    · rfl
    · exact findC_app r b k
theorem findC_ins (cs : List KC) (k v : List UInt8) (n : Int) (k' : List UInt8) : findC (insC cs k v n) k' = if k' = k then some (v, n) else findC cs k' := by
  have hd := findC_drop cs k k'
  generalize hl : dropC cs k = l at hd
  generalize hm : placeC l k = m
  have hs : findC l k' = (findC (l.take m) k').orElse fun _ => findC (l.drop m) k' := by rw [← findC_app, List.take_append_drop]
  unfold insC
  rw [hl, hm, findC_app, findC_app]
  by_cases h : k' = k
  · rw [if_pos h] at hd ⊢
    rw [hd] at hs
    have h1 : findC (l.take m) k' = none := by
      cases h2 : findC (l.take m) k' with
      | none => rfl
      | some x => rw [h2] at hs; cases hs
    rw [h1]
    simp [findC, h]
  · rw [if_neg h] at hd ⊢
    rw [← hd, hs]
    have : findC [(k, v, n)] k' = none := by simp only [findC]; rw [if_neg (fun e => h (Eq.symm e))]
    rw [this]
    cases findC (l.take m) k' <;> rfl
theorem findC_set : ∀ (cs : List KC) (k v : List UInt8) (n : Int) (k' : List UInt8), findC (setC cs k v n) k' = if k' = k then some (v, n) else findC cs k'
  | [], k, v, n, k' => by simp only [setC, findC, eq_comm]
  | c :: r, k, v, n, k' => by
    have ih := findC_set r k v n k'
    simp only [setC]
    by_cases h : c.1 = k
    · simp only [h, if_true, findC]
      by_cases h' : k' = k
      · simp [h']
      · rw [if_neg h', if_neg (fun e => h' e.symm), if_neg (fun e => h' e.symm)]
    · rw [if_neg h]
      simp only [findC, ih]
      by_cases h' : k' = k
      · rw [if_pos h', if_neg (by rw [h']; exact h), if_pos h']
      · rw [if_neg h', if_neg h']
/-- No key stands twice. -/
def uniC (cs : List KC) : Prop := (cs.map (·.1)).Nodup
theorem findC_none : ∀ {cs : List KC} {k : List UInt8}, (k ∉ cs.map (·.1)) → findC cs k = none
  | [], _, _ => rfl
  | c :: r, k, h => by
    simp only [List.map_cons, List.mem_cons, not_or] at h
    simp only [findC]
    rw [if_neg (fun e => h.1 e.symm)]
    exact findC_none h.2
theorem findC_del : ∀ (cs : List KC) (k : List UInt8) (k' : List UInt8), uniC cs → findC (delC cs k) k' = if k' = k then none else findC cs k'
  | [], k, k', _ => by simp [delC, findC]
  | c :: r, k, k', hu => by
    have hu' := List.nodup_cons.1 hu
    have ih := findC_del r k k' hu'.2
    simp only [delC]
    by_cases h : c.1 = k
    · simp only [h, if_true, findC]
      by_cases h' : k' = k
      · rw [if_pos h', h', ← h]
        exact findC_none hu'.1
      · rw [if_neg h', if_neg (fun e => h' e.symm)]
    · rw [if_neg h]
      simp only [findC, ih]
      by_cases h' : k' = k
      · rw [if_pos h', if_neg (by rw [h']; exact h), if_pos h']
      · rw [if_neg h', if_neg h']
theorem setC_keys : ∀ (cs : List KC) (k v : List UInt8) (n : Int) (x : List UInt8), x ∈ (setC cs k v n).map (·.1) → x = k ∨ x ∈ cs.map (·.1)
  | [], k, v, n, x => by simp [setC]
  | c :: r, k, v, n, x => by
    have ih := setC_keys r k v n x
    simp only [setC]
    split
    · simp
      rintro (h | h)
      · exact .inl h
      · exact .inr (.inr h)
    · intro h
      simp only [List.map_cons, List.mem_cons] at h ⊢
      rcases h with h | h
      · exact .inr (.inl h)
      · rcases ih h with h | h
        · exact .inl h
        · exact .inr (.inr h)
theorem uniC_set : ∀ {cs : List KC} (k v : List UInt8) (n : Int), uniC cs → uniC (setC cs k v n)
  | [], k, v, n, _ => by simp [setC, uniC]
  | c :: r, k, v, n, h => by
    have h' := List.nodup_cons.1 h
    simp only [setC]
    split
    · rename_i hc
      refine List.nodup_cons.2 ⟨?_, h'.2⟩
      rw [← hc]
      exact h'.1
    · rename_i hc
      refine List.nodup_cons.2 ⟨fun hm => ?_, uniC_set (cs := r) k v n h'.2⟩
      rcases setC_keys r k v n _ hm with e | e
      · exact hc e
      · exact h'.1 e
theorem delC_sub : ∀ (cs : List KC) (k : List UInt8), (delC cs k).Sublist cs
  | [], _ => List.Sublist.refl _
  | c :: r, k => by
    simp only [delC]
    split
    · exact List.sublist_cons_self _ _
    · exact (delC_sub r k).cons_cons c
theorem uniC_del {cs : List KC} (k : List UInt8) (h : uniC cs) : uniC (delC cs k) := ((delC_sub cs k).map _).nodup h
theorem uniC_apply {cs : List KC} (n : Int) (o : OpM) (h : uniC cs) : uniC (applyM cs n o).1 := by
  unfold applyM
  cases (effM (findC cs o.key) n o).1 with
  | stay => exact h
  | gone => exact uniC_del _ h
  | put v m => exact uniC_set _ _ _ h
/-- Two stores that have the same. -/
def sameC (a b : List KC) : Prop := ∀ k, findC a k = findC b k
theorem sameC_apply {a b : List KC} (n : Int) (o : OpM) (h : sameC a b) (ha : uniC a) : sameC (applyM a n o).1 (applyD b n o).1 ∧ (applyM a n o).2 = (applyD b n o).2 := by
  unfold applyM applyD
  rw [h o.key]
  refine ⟨fun k => ?_, rfl⟩
  cases (effM (findC b o.key) n o).1 with
  | stay => exact h k
  | gone => simp only [effC, effD, findC_del _ _ _ ha, findC_drop, h k]
  | put v m => simp only [effC, effD, findC_set, findC_ins, h k]
/-- What all entries lead to, and each one's result. -/
def cellsN (l : List EntM) : Nat → List KC × List ResM
  | 0 => ([], [])
  | i + 1 => ((applyD (cellsN l i).1 (i + 1) (l.getD i entZ).op).1, (cellsN l i).2 ++ [(applyD (cellsN l i).1 (i + 1) (l.getD i entZ).op).2])
theorem getD_app {α : Type} {l r : List α} {i : Nat} {z : α} (h : i < l.length) : (l ++ r).getD i z = l.getD i z := by
  simp [List.getD, List.getElem?_append_left h]
theorem cellsN_app (l r : List EntM) : ∀ i, i ≤ l.length → cellsN (l ++ r) i = cellsN l i
  | 0, _ => rfl
  | i + 1, h => by
    have ih := cellsN_app l r i (by omega)
    simp only [cellsN, ih, getD_app (show i < l.length by omega)]
theorem cellsN_len (l : List EntM) : ∀ i, (cellsN l i).2.length = i
  | 0 => rfl
  | i + 1 => by simp [cellsN, cellsN_len l i]
theorem insC_len (cs : List KC) (k v : List UInt8) (n : Int) : (insC cs k v n).length ≤ cs.length + 1 := by
  have := dropC_len cs k
  simp [insC]
  omega
theorem applyD_len (cs : List KC) (n : Int) (o : OpM) : (applyD cs n o).1.length ≤ cs.length + 1 := by
  unfold applyD effD
  cases (effM (findC cs o.key) n o).1 with
  | stay => simp
  | gone => have := dropC_len cs o.key; simp only; omega
  | put v m => exact insC_len cs o.key v m
/-- A client's last one among the first so many. -/
def lastD (l : List EntM) (c : Int) : Nat → Int × Int
  | 0 => (0, 0)
  | i + 1 => if (l.getD i entZ).client = c then ((l.getD i entZ).seq, (i : Int) + 1) else lastD l c i
theorem lastD_app (l r : List EntM) (c : Int) : ∀ i, i ≤ l.length → lastD (l ++ r) c i = lastD l c i
  | 0, _ => rfl
  | i + 1, h => by
    have ih := lastD_app l r c i (by omega)
    simp only [lastD, ih, getD_app (show i < l.length by omega)]
/-- A log is the document's. -/
structure LogD (l : LogM) : Prop where
  ok : l.ok
  uni : uniC l.cs
  cells : sameC l.cs (cellsN l.ents l.ents.length).1
  ress : l.ress = (cellsN l.ents l.ents.length).2
  last : ∀ c : Int, 0 ≤ c → c < 6 → l.la c.toNat = lastD l.ents c l.ents.length
  out : ∀ c : Int, c < 0 ∨ 6 ≤ c → lastD l.ents c l.ents.length = (0, 0)
theorem LogD.put {l : LogM} (h : LogD l) {e : EntM} (he : logErr l e = 0) : LogD (logPut l e) := by
  obtain ⟨⟨a1, a2, a3, a4, a5⟩, a6, a7, a8⟩ := logErr_0.1 he
  have hl : (logPut l e).ents = l.ents ++ [e] := rfl
  have hg : (l.ents ++ [e]).getD l.ents.length entZ = e := by simp [List.getD]
  have hc : cellsN (l.ents ++ [e]) (l.ents.length + 1) = ((applyD (cellsN l.ents l.ents.length).1 (l.ents.length + 1) e.op).1, (cellsN l.ents l.ents.length).2 ++ [(applyD (cellsN l.ents l.ents.length).1 (l.ents.length + 1) e.op).2]) := by
    simp only [cellsN, cellsN_app l.ents [e] _ (Nat.le_refl _), hg]
  have hs := sameC_apply e.index e.op h.cells h.uni
  refine ⟨logPut_ok h.ok he, uniC_apply _ _ h.uni, ?_, ?_, fun c h0 h6 => ?_, fun c ho => ?_⟩
  · rw [hl, show (l.ents ++ [e]).length = l.ents.length + 1 by simp, hc]
    show sameC (applyM l.cs e.index e.op).1 _
    rw [← a7]
    exact hs.1
  · rw [hl, show (l.ents ++ [e]).length = l.ents.length + 1 by simp, hc]
    show l.ress ++ [(applyM l.cs e.index e.op).2] = _
    rw [← a7, h.ress, hs.2]
  · rw [hl, show (l.ents ++ [e]).length = l.ents.length + 1 by simp]
    show (if c.toNat = e.client.toNat then (e.seq, e.index) else l.la c.toNat) = _
    simp only [lastD, hg, lastD_app l.ents [e] c _ (Nat.le_refl _)]
    by_cases hcc : e.client = c
    · rw [if_pos (by rw [hcc]), if_pos hcc, a7]
    · rw [if_neg (by omega), if_neg hcc]
      exact h.last c h0 h6
  · rw [hl, show (l.ents ++ [e]).length = l.ents.length + 1 by simp]
    simp only [lastD, hg, lastD_app l.ents [e] c _ (Nat.le_refl _)]
    rw [if_neg (by omega)]
    exact h.out c ho
theorem LogD.lasts {l : LogM} (h : LogD l) (c : Int) : (if c < 0 ∨ 6 ≤ c then (0, 0) else l.la c.toNat) = lastD l.ents c l.ents.length := by
  split
  · rename_i hc; exact (h.out c hc).symm
  · rename_i hc; exact h.last c (by omega) (by omega)
end Go.Proofs.Ytfkbodonidkpoaa
namespace Go.Proofs.Ytfkbodonidkpoaa
theorem lessB_eq : ∀ (x y : List UInt8), Op.bytesLess x y = decide (x < y)
  | [], [] => by simp [Op.bytesLess]
  | _ :: _, [] => by simp [Op.bytesLess]
  | [], _ :: _ => by simp [Op.bytesLess]
  | a :: x, b :: y => by
    rw [Op.bytesLess, lessB_eq x y]
    simp only [List.cons_lt_cons_iff]
    by_cases h1 : a < b <;> by_cases h2 : a = b <;> by_cases h3 : x < y <;> simp [h1, h2, h3]
def riseC (l : List KC) : Prop := l.Pairwise fun a b => a.1 < b.1
theorem riseC_drop {l : List KC} (k : List UInt8) (h : riseC l) : riseC (dropC l k) := h.filter _
theorem bytesLess_lt (x y : List UInt8) : Op.bytesLess x y = true ↔ x < y := by rw [lessB_eq]; simp
theorem place_take : ∀ (l : List KC) (k : List UInt8), ∀ c ∈ l.take (placeC l k), c.1 < k
  | [], _, c, h => by simp at h
  | x :: r, k, c, h => by
    unfold placeC at h
    split at h
    · rename_i hb
      rw [List.take_succ_cons] at h
      rcases List.mem_cons.1 h with rfl | h
      · exact (bytesLess_lt _ _).1 hb
      · exact place_take r k c h
    · simp at h
theorem place_drop : ∀ (l : List KC) (k : List UInt8), riseC l → (∀ c ∈ l, c.1 ≠ k) → ∀ c ∈ l.drop (placeC l k), k < c.1
  | [], _, _, _, c, h => by simp at h
  | x :: r, k, hr, hn, c, h => by
    have hx := List.pairwise_cons.1 hr
    unfold placeC at h
    split at h
    · rw [List.drop_succ_cons] at h
      exact place_drop r k hx.2 (fun c hc => hn c (List.mem_cons_of_mem _ hc)) c h
    · rename_i hb
      have h1 : ¬ x.1 < k := fun e => hb ((bytesLess_lt _ _).2 e)
      have h2 : k < x.1 := by
        rcases List.le_total x.1 k with h | h
        · rcases Classical.em (x.1 = k) with e | e
          · exact absurd e (hn x (List.mem_cons_self ..))
          · exact absurd (Classical.byContradiction fun hl => e (List.le_antisymm h (List.not_lt.1 hl))) h1
        · exact Classical.byContradiction fun hl => hn x (List.mem_cons_self ..) (List.le_antisymm (List.not_lt.1 hl) h)
      rw [List.drop_zero] at h
      rcases List.mem_cons.1 h with rfl | h
      · exact h2
      · exact List.lt_trans h2 (hx.1 c h)
theorem riseC_ins {l : List KC} (k v : List UInt8) (n : Int) (h : riseC l) : riseC (insC l k v n) := by
  have hd := riseC_drop k h
  have hn : ∀ c ∈ dropC l k, c.1 ≠ k := fun c hc e => by
    have := (List.mem_filter.1 hc).2
    simp [e] at this
  have h1 := place_take (dropC l k) k
  have h2 := place_drop (dropC l k) k hd hn
  unfold insC riseC
  rw [List.pairwise_append, List.pairwise_append]
  refine ⟨⟨hd.sublist (List.take_sublist _ _), List.pairwise_singleton _ _, fun a ha b hb => ?_⟩, hd.sublist (List.drop_sublist _ _), fun a ha b hb => ?_⟩
  · rw [List.mem_singleton.1 hb]; exact h1 a ha
  · rcases List.mem_append.1 ha with ha | ha
    · exact List.lt_trans (h1 a ha) (h2 b hb)
    · rw [List.mem_singleton.1 ha]; exact h2 b hb
theorem riseC_apply {l : List KC} (n : Int) (o : OpM) (h : riseC l) : riseC (applyD l n o).1 := by
  unfold applyD
  cases (effM (findC l o.key) n o).1 with
  | stay => exact h
  | gone => exact riseC_drop _ h
  | put v n => exact riseC_ins _ _ _ h
end Go.Proofs.Ytfkbodonidkpoaa
namespace Go.Proofs.Ytfkbodonidkpoaa
/-- A client's last entry, and what it did. -/
structure LaM where
  client : Int
  seq : Int
  res : ResM
  deriving DecidableEq
def laZ : LaM := ⟨0, 0, resZ⟩
structure ShM where
  index : Int
  cells : List KC
  lasts : List LaM
  deriving DecidableEq
def shZ : ShM := ⟨0, [], []⟩
/-- May a cell stand at its place? -/
def okCell (n : Int) (l : List KC) (i : Nat) : Bool :=
  (decide (i = 0) || Op.bytesLess (l.getD (i - 1) celZ).1 (l.getD i celZ).1) && (decide (1 ≤ (l.getD i celZ).1.length) && decide ((l.getD i celZ).1.length ≤ 16) && decide ((l.getD i celZ).2.1.length ≤ 64) && decide (1 ≤ (l.getD i celZ).2.2) && decide ((l.getD i celZ).2.2 ≤ n))
def okLast (n : Int) (l : List LaM) (i : Nat) : Bool :=
  (decide (i = 0) || decide ((l.getD (i - 1) laZ).client < (l.getD i laZ).client)) && (decide (0 ≤ (l.getD i laZ).client) && decide ((l.getD i laZ).client ≤ 5) && decide (1 ≤ (l.getD i laZ).seq) && decide ((l.getD i laZ).seq ≤ 1099511627776) &&
    decide (1 ≤ (l.getD i laZ).res.code) && decide ((l.getD i laZ).res.code ≤ 3) && decide ((l.getD i laZ).res.value.length ≤ 64) && decide (0 ≤ (l.getD i laZ).res.version) && decide ((l.getD i laZ).res.version ≤ 4096) && decide (1 ≤ (l.getD i laZ).res.pos) && decide ((l.getD i laZ).res.pos ≤ n))
def allTo (p : Nat → Bool) (n : Nat) : Bool := (List.range n).all p
theorem allTo_zero (p : Nat → Bool) : allTo p 0 = true := rfl
theorem allTo_succ (p : Nat → Bool) (n : Nat) : allTo p (n + 1) = (allTo p n && p n) := by simp [allTo, List.range_succ]
theorem allTo_iff {p : Nat → Bool} {n : Nat} : allTo p n = true ↔ ∀ i, i < n → p i = true := by simp [allTo]
theorem allTo_no {p : Nat → Bool} {n i : Nat} (h : i < n) (hp : p i = false) : allTo p n = false := by
  rcases h' : allTo p n with _ | _
  · rfl
  · rw [allTo_iff.1 h' i h] at hp; cases hp
/-- May a shot be? -/
def chkS (s : ShM) : Bool := decide (0 ≤ s.index) && decide (s.index ≤ 4096) && (allTo (okCell s.index s.cells) s.cells.length && allTo (okLast s.index s.lasts) s.lasts.length)
structure ChkS (s : ShM) : Prop where
  lo : 0 ≤ s.index
  hi : s.index ≤ 4096
  cell : ∀ i, i < s.cells.length → okCell s.index s.cells i = true
  last : ∀ i, i < s.lasts.length → okLast s.index s.lasts i = true
theorem chkS_iff {s : ShM} : chkS s = true ↔ ChkS s := by
  unfold chkS
  simp only [Bool.and_eq_true, decide_eq_true_eq, allTo_iff]
  exact ⟨fun h => ⟨h.1.1, h.1.2, h.2.1, h.2.2⟩, fun h => ⟨⟨h.lo, h.hi⟩, h.cell, h.last⟩⟩
structure CellI (n : Int) (c : KC) : Prop where
  k1 : 1 ≤ c.1.length
  k16 : c.1.length ≤ 16
  v64 : c.2.1.length ≤ 64
  n1 : 1 ≤ c.2.2
  nn : c.2.2 ≤ n
structure LastI (n : Int) (x : LaM) : Prop where
  c0 : 0 ≤ x.client
  c5 : x.client ≤ 5
  s1 : 1 ≤ x.seq
  sn : x.seq ≤ 1099511627776
  r1 : 1 ≤ x.res.code
  r3 : x.res.code ≤ 3
  v64 : x.res.value.length ≤ 64
  n0 : 0 ≤ x.res.version
  n4 : x.res.version ≤ 4096
  p1 : 1 ≤ x.res.pos
  pn : x.res.pos ≤ n
theorem okCell_iff {n : Int} {l : List KC} {i : Nat} : okCell n l i = true ↔ (i = 0 ∨ Op.bytesLess (l.getD (i - 1) celZ).1 (l.getD i celZ).1 = true) ∧ CellI n (l.getD i celZ) := by
  unfold okCell
  simp only [Bool.and_eq_true, Bool.or_eq_true, decide_eq_true_eq]
  exact ⟨fun ⟨a, ⟨⟨⟨b, c⟩, d⟩, e⟩, f⟩ => ⟨a, b, c, d, e, f⟩, fun ⟨a, b, c, d, e, f⟩ => ⟨a, ⟨⟨⟨b, c⟩, d⟩, e⟩, f⟩⟩
theorem okLast_iff {n : Int} {l : List LaM} {i : Nat} : okLast n l i = true ↔ (i = 0 ∨ (l.getD (i - 1) laZ).client < (l.getD i laZ).client) ∧ LastI n (l.getD i laZ) := by
  unfold okLast
  simp only [Bool.and_eq_true, Bool.or_eq_true, decide_eq_true_eq]
  exact ⟨fun ⟨a, ⟨⟨⟨⟨⟨⟨⟨⟨⟨⟨c0, c5⟩, s1⟩, sn⟩, r1⟩, r3⟩, v⟩, n0⟩, n4⟩, p1⟩, pn⟩⟩ => ⟨a, c0, c5, s1, sn, r1, r3, v, n0, n4, p1, pn⟩, fun ⟨a, c0, c5, s1, sn, r1, r3, v, n0, n4, p1, pn⟩ => ⟨a, ⟨⟨⟨⟨⟨⟨⟨⟨⟨⟨c0, c5⟩, s1⟩, sn⟩, r1⟩, r3⟩, v⟩, n0⟩, n4⟩, p1⟩, pn⟩⟩⟩
/-- The cells rise by their keys, the clients by their numbers. -/
def riseK (l : List KC) : Prop := l.Pairwise fun a b => Op.bytesLess a.1 b.1 = true
def riseL (l : List LaM) : Prop := l.Pairwise fun a b => a.client < b.client
theorem less_trans {a b c : List UInt8} (h1 : Op.bytesLess a b = true) (h2 : Op.bytesLess b c = true) : Op.bytesLess a c = true := by
  rw [lessB_eq] at *
  simp only [decide_eq_true_eq] at *
  exact List.lt_trans h1 h2
theorem less_irrefl (a : List UInt8) : Op.bytesLess a a = false := by
  rw [lessB_eq]
  simp [List.lt_irrefl]
theorem less_total {a b : List UInt8} (h1 : Op.bytesLess a b = false) (h2 : ¬ a = b) : Op.bytesLess b a = true := by
  rw [lessB_eq] at *
  simp only [decide_eq_false_iff_not, decide_eq_true_eq] at *
  exact Classical.byContradiction fun h => h2 (List.le_antisymm (List.not_lt.1 h) (List.not_lt.1 h1))
/-- What rises from one to the next rises. -/
theorem pair_next {α : Type} (R : α → α → Prop) (ht : ∀ a b c, R a b → R b c → R a c) (d : α) : ∀ (l : List α), (∀ i, i + 1 < l.length → R (l.getD i d) (l.getD (i + 1) d)) → l.Pairwise R
  | [], _ => List.Pairwise.nil
  | [x], _ => List.pairwise_singleton _ _
  | x :: y :: r, h => by
    have ih := pair_next R ht d (y :: r) fun i hi => by
      have := h (i + 1) (by simp only [List.length_cons] at hi ⊢; omega)
      simpa using this
    refine List.pairwise_cons.2 ⟨fun z hz => ?_, ih⟩
    have hxy : R x y := by
      have := h 0 (by simp)
      simpa using this
    rcases List.mem_cons.1 hz with rfl | hz
    · exact hxy
    · exact ht _ _ _ hxy ((List.pairwise_cons.1 ih).1 z hz)
theorem pair_getD {α : Type} {R : α → α → Prop} {l : List α} (h : l.Pairwise R) (d : α) {i j : Nat} (hij : i < j) (hj : j < l.length) : R (l.getD i d) (l.getD j d) := by
  have := List.pairwise_iff_getElem.1 h i j (by omega) hj hij
  simpa [List.getD, List.getElem?_eq_getElem hj, List.getElem?_eq_getElem (show i < l.length by omega)] using this
theorem ChkS.rise {s : ShM} (h : ChkS s) : riseK s.cells := pair_next (fun a b : KC => Op.bytesLess a.1 b.1 = true) (fun _ _ _ => less_trans) celZ _ fun i hi => by
  have := (okCell_iff.1 (h.cell (i + 1) hi)).1
  rcases this with e | e
  · omega
  · exact e
theorem ChkS.risesL {s : ShM} (h : ChkS s) : riseL s.lasts := pair_next (fun a b : LaM => a.client < b.client) (fun _ _ _ => Int.lt_trans) laZ _ fun i hi => by
  have := (okLast_iff.1 (h.last (i + 1) hi)).1
  rcases this with e | e
  · omega
  · exact e
theorem ChkS.cellI {s : ShM} (h : ChkS s) {c : KC} (hc : c ∈ s.cells) : CellI s.index c := by
  obtain ⟨i, hi, rfl⟩ := List.getElem_of_mem hc
  have := (okCell_iff.1 (h.cell i hi)).2
  simpa [List.getD, List.getElem?_eq_getElem hi] using this
theorem ChkS.lastI {s : ShM} (h : ChkS s) {c : LaM} (hc : c ∈ s.lasts) : LastI s.index c := by
  obtain ⟨i, hi, rfl⟩ := List.getElem_of_mem hc
  have := (okLast_iff.1 (h.last i hi)).2
  simpa [List.getD, List.getElem?_eq_getElem hi] using this
theorem ChkS.mk' {s : ShM} (h0 : 0 ≤ s.index) (h1 : s.index ≤ 4096) (h2 : riseK s.cells) (h3 : riseL s.lasts) (h4 : ∀ c ∈ s.cells, CellI s.index c) (h5 : ∀ c ∈ s.lasts, LastI s.index c) : ChkS s := by
  refine ⟨h0, h1, fun i hi => okCell_iff.2 ⟨?_, h4 _ ?_⟩, fun i hi => okLast_iff.2 ⟨?_, h5 _ ?_⟩⟩
  · rcases Nat.eq_zero_or_pos i with e | e
    · exact .inl e
    · exact .inr (pair_getD h2 celZ (by omega) hi)
  · simp [List.getD, List.getElem?_eq_getElem hi]
  · rcases Nat.eq_zero_or_pos i with e | e
    · exact .inl e
    · exact .inr (pair_getD h3 laZ (by omega) hi)
  · simp [List.getD, List.getElem?_eq_getElem hi]
/-- A client's last one. -/
def findL : List LaM → Int → Option LaM
  | [], _ => none
  | x :: r, c => if x.client = c then some x else findL r c
/-- Where a client stands, or would stand. -/
def placeL : List LaM → Int → Nat
  | [], _ => 0
  | x :: r, c => if x.client < c then placeL r c + 1 else 0
/-- A client's last one is another one. -/
def putL : List LaM → LaM → List LaM
  | [], y => [y]
  | x :: r, y => if x.client < y.client then x :: putL r y else if x.client = y.client then y :: r else y :: x :: r
def lookS (s : ShM) (k : List UInt8) : ResM := if chkS s then lookM (findC s.cells k) s.index else resZ
def findS (s : ShM) (c : Int) : Option LaM := if chkS s then findL s.lasts c else none
/-- Why an entry may not come behind a shot. -/
def errS (s : ShM) (e : EntM) : Int :=
  if chkS s = false ∨ e.seq < 1 ∨ 1099511627776 < e.seq ∨ e.client < 0 ∨ 5 < e.client ∨ ¬ chkO e.op = 0 ∨ e.op.kind = 1 then 2
  else if 4096 ≤ s.index then 60
  else if ¬ e.index = s.index + 1 then 70
  else if e.seq ≤ ((findL s.lasts e.client).getD laZ).seq then 71
  else 0
/-- What one leads to that may come. -/
def nextS (s : ShM) (e : EntM) : ShM := ⟨e.index, (applyD s.cells e.index e.op).1, putL s.lasts ⟨e.client, e.seq, (applyD s.cells e.index e.op).2⟩⟩
def applyS (s : ShM) (e : EntM) : ShM × ResM × Int := if errS s e = 0 then (nextS s e, (applyD s.cells e.index e.op).2, 0) else (shZ, resZ, errS s e)
structure ErrS0 (s : ShM) (e : EntM) : Prop where
  chk : ChkS s
  s1 : 1 ≤ e.seq
  sn : e.seq ≤ 1099511627776
  c0 : 0 ≤ e.client
  c5 : e.client ≤ 5
  op : chkO e.op = 0
  kind : ¬ e.op.kind = 1
  room : s.index < 4096
  index : e.index = s.index + 1
  old : ((findL s.lasts e.client).getD laZ).seq < e.seq
theorem errS_0 {s : ShM} {e : EntM} : errS s e = 0 ↔ ErrS0 s e := by
  unfold errS
  constructor
  · intro h
    split at h
    · cases h
    split at h
    · cases h
    split at h
    · cases h
    split at h
    · cases h
    rename_i h1 h2 h3 h4
    have hc : chkS s = true := by
      rcases h' : chkS s with _ | _
      · exact absurd (.inl h') h1
      · rfl
    have h1 := fun x => h1 (.inr x)
    refine ⟨chkS_iff.1 hc, ?_, ?_, ?_, ?_, ?_, ?_, by omega, by omega, by omega⟩
    · exact Classical.byContradiction fun hn => h1 (.inl (by omega))
    · exact Classical.byContradiction fun hn => h1 (.inr (.inl (by omega)))
    · exact Classical.byContradiction fun hn => h1 (.inr (.inr (.inl (by omega))))
    · exact Classical.byContradiction fun hn => h1 (.inr (.inr (.inr (.inl (by omega)))))
    · exact Classical.byContradiction fun hn => h1 (.inr (.inr (.inr (.inr (.inl hn)))))
    · exact fun hn => h1 (.inr (.inr (.inr (.inr (.inr hn)))))
  · intro h
    have hc := chkS_iff.2 h.chk
    have := h.op
    have := h.kind
    obtain ⟨_, h1, h2, h3, h4, h5, h6, h7, h8, h9⟩ := h
    rw [if_neg (by
      rintro (h | h | h | h | h | h | h)
      · rw [hc] at h; cases h
      · omega
      · omega
      · omega
      · omega
      · exact h h5
      · exact h6 h), if_neg (by omega), if_neg (by omega), if_neg (by omega)]
/-- What is known of places in lists that rise. -/
theorem placeC_at : ∀ {l : List KC} {k : List UInt8} {i : Nat}, riseK l → i < l.length → (Op.bytesLess (l.getD i celZ).1 k = true ↔ i < placeC l k)
  | [], _, _, _, h => absurd h (Nat.not_lt_zero _)
  | x :: r, k, 0, _, _ => by
    unfold placeC
    simp only [List.getD_cons_zero]
    by_cases hx : Op.bytesLess x.1 k = true
    · simp [hx]
    · simp [hx]
  | x :: r, k, i + 1, hr, h => by
    have hr' := List.pairwise_cons.1 hr
    have hi : i < r.length := by simpa using h
    have ih := placeC_at (k := k) hr'.2 hi
    simp only [List.getD_cons_succ]
    unfold placeC
    by_cases hx : Op.bytesLess x.1 k = true
    · rw [if_pos hx, ih]; omega
    · rw [if_neg hx]
      constructor
      · intro h1
        have := hr'.1 (r.getD i celZ) (by simp [List.getD, List.getElem?_eq_getElem hi])
        exact absurd (less_trans this h1) hx
      · intro h1; omega
theorem placeL_at : ∀ {l : List LaM} {k : Int} {i : Nat}, riseL l → i < l.length → ((l.getD i laZ).client < k ↔ i < placeL l k)
  | [], _, _, _, h => absurd h (Nat.not_lt_zero _)
  | x :: r, k, 0, _, _ => by
    unfold placeL
    simp only [List.getD_cons_zero]
    by_cases hx : x.client < k
    · simp [hx]
    · simp [hx]
  | x :: r, k, i + 1, hr, h => by
    have hr' := List.pairwise_cons.1 hr
    have hi : i < r.length := by simpa using h
    have ih := placeL_at (k := k) hr'.2 hi
    simp only [List.getD_cons_succ]
    unfold placeL
    by_cases hx : x.client < k
    · rw [if_pos hx, ih]; omega
    · rw [if_neg hx]
      constructor
      · intro h1
        have := hr'.1 (r.getD i laZ) (by simp [List.getD, List.getElem?_eq_getElem hi])
        omega
      · intro h1; omega
theorem placeL_le : ∀ (l : List LaM) (k : Int), placeL l k ≤ l.length
  | [], _ => Nat.le_refl _
  | x :: r, k => by
    have := placeL_le r k
    unfold placeL
    split <;> simp <;> omega
theorem findC_out {l : List KC} {k : List UInt8} (h : ∀ c ∈ l, ¬ c.1 = k) : findC l k = none := by
  induction l with
  | nil => rfl
  | cons x r ih => rw [findC, if_neg (h x (by simp))]; exact ih fun c hc => h c (by simp [hc])
theorem findL_out {l : List LaM} {k : Int} (h : ∀ c ∈ l, ¬ c.client = k) : findL l k = none := by
  induction l with
  | nil => rfl
  | cons x r ih => rw [findL, if_neg (h x (by simp))]; exact ih fun c hc => h c (by simp [hc])
theorem findC_place : ∀ {l : List KC} {k : List UInt8}, riseK l → findC l k = if placeC l k < l.length ∧ (l.getD (placeC l k) celZ).1 = k then some (l.getD (placeC l k) celZ).2 else none
  | [], _, _ => by simp [findC, placeC]
  | x :: r, k, hr => by
    have hr' := List.pairwise_cons.1 hr
    have ih := findC_place (k := k) hr'.2
    unfold findC placeC
    by_cases hx : Op.bytesLess x.1 k = true
    · have hk : ¬ x.1 = k := fun e => by rw [e, less_irrefl] at hx; cases hx
      rw [if_neg hk, if_pos hx, ih]
      simp only [List.getD_cons_succ, List.length_cons, Nat.add_lt_add_iff_right]
    · rw [if_neg hx]
      by_cases hk : x.1 = k
      · simp [hk]
      · rw [if_neg hk, if_neg (by simp [hk])]
        have hkx : Op.bytesLess k x.1 = true := less_total (by simpa using hx) hk
        exact findC_out fun c hc e => by
          have := less_trans hkx (hr'.1 c hc)
          rw [e, less_irrefl] at this
          cases this
theorem findL_place : ∀ {l : List LaM} {k : Int}, riseL l → findL l k = if placeL l k < l.length ∧ (l.getD (placeL l k) laZ).client = k then some (l.getD (placeL l k) laZ) else none
  | [], _, _ => by simp [findL, placeL]
  | x :: r, k, hr => by
    have hr' := List.pairwise_cons.1 hr
    have ih := findL_place (k := k) hr'.2
    unfold findL placeL
    by_cases hx : x.client < k
    · have hk : ¬ x.client = k := by omega
      rw [if_neg hk, if_pos hx, ih]
      simp only [List.getD_cons_succ, List.length_cons, Nat.add_lt_add_iff_right]
    · rw [if_neg hx]
      by_cases hk : x.client = k
      · simp [hk]
      · rw [if_neg hk, if_neg (by simp [hk])]
        exact findL_out fun c hc e => by
          have := hr'.1 c hc
          omega
/-- The cells without a key's, by its place. -/
theorem dropC_out {l : List KC} {k : List UInt8} (h : ∀ c ∈ l, ¬ c.1 = k) : dropC l k = l := by
  unfold dropC
  rw [List.filter_eq_self]
  intro a ha
  simpa using h a ha
theorem dropC_place : ∀ {l : List KC} {k : List UInt8}, riseK l → dropC l k = if placeC l k < l.length ∧ (l.getD (placeC l k) celZ).1 = k then l.eraseIdx (placeC l k) else l
  | [], _, _ => by simp [dropC]
  | x :: r, k, hr => by
    have hr' := List.pairwise_cons.1 hr
    have ih := dropC_place (k := k) hr'.2
    unfold placeC
    by_cases hx : Op.bytesLess x.1 k = true
    · have hk : ¬ x.1 = k := fun e => by rw [e, less_irrefl] at hx; cases hx
      have hb : (!(x.1 == k)) = true := by simpa using hk
      rw [if_pos hx]
      unfold dropC at ih ⊢
      rw [List.filter_cons, if_pos hb, ih]
      simp only [List.getD_cons_succ, List.length_cons, Nat.add_lt_add_iff_right, List.eraseIdx_cons_succ]
      split <;> rfl
    · rw [if_neg hx]
      by_cases hk : x.1 = k
      · have hb : (!(x.1 == k)) = false := by simpa using hk
        rw [if_pos (by simp [hk])]
        unfold dropC
        rw [List.filter_cons, hb]
        simp only [Bool.false_eq_true, if_false, List.eraseIdx_cons_zero]
        exact dropC_out fun c hc e => by
          have := hr'.1 c hc
          rw [hk, e, less_irrefl] at this
          cases this
      · rw [if_neg (by simp [hk])]
        have hkx : Op.bytesLess k x.1 = true := less_total (by simpa using hx) hk
        exact dropC_out fun c hc e => by
          rcases List.mem_cons.1 hc with rfl | hc
          · exact hk e
          · have := less_trans hkx (hr'.1 c hc)
            rw [e, less_irrefl] at this
            cases this
theorem placeC_drop : ∀ {l : List KC} {k : List UInt8}, riseK l → placeC (dropC l k) k = placeC l k
  | [], _, _ => rfl
  | x :: r, k, hr => by
    have hr' := List.pairwise_cons.1 hr
    have ih := placeC_drop (k := k) hr'.2
    unfold dropC at ih ⊢
    by_cases hx : Op.bytesLess x.1 k = true
    · have hk : ¬ x.1 = k := fun e => by rw [e, less_irrefl] at hx; cases hx
      have hb : (!(x.1 == k)) = true := by simpa using hk
      rw [List.filter_cons, if_pos hb]
      simp only [placeC, hx, if_true, ih]
    · by_cases hk : x.1 = k
      · have hb : (!(x.1 == k)) = false := by simpa using hk
        rw [List.filter_cons, hb]
        simp only [Bool.false_eq_true, if_false]
        rw [ih]
        simp only [placeC, hx]
        cases r with
        | nil => rfl
        | cons y r =>
          unfold placeC
          have h1 := hr'.1 y (by simp)
          have : ¬ Op.bytesLess y.1 k = true := fun e => by
            have := less_trans h1 e
            rw [hk, less_irrefl] at this
            cases this
          rw [if_neg this, if_neg (by simp)]
      · have hb : (!(x.1 == k)) = true := by simpa using hk
        rw [List.filter_cons, if_pos hb]
        simp only [placeC, hx, Bool.false_eq_true, if_false]
/-- Others in a list, at a place. -/
def insAt {α : Type} (l : List α) (i : Nat) (x : α) : List α := l.take i ++ x :: l.drop i
theorem insC_place {l : List KC} {k v : List UInt8} {n : Int} (h : riseK l) : insC l k v n = insAt (if placeC l k < l.length ∧ (l.getD (placeC l k) celZ).1 = k then l.eraseIdx (placeC l k) else l) (placeC l k) (k, v, n) := by
  unfold insC insAt
  rw [placeC_drop h, dropC_place h]
  simp
theorem putL_place : ∀ {l : List LaM} {y : LaM}, riseL l → putL l y = if placeL l y.client < l.length ∧ (l.getD (placeL l y.client) laZ).client = y.client then l.set (placeL l y.client) y else insAt l (placeL l y.client) y
  | [], _, _ => by simp [putL, insAt]
  | x :: r, y, hr => by
    have hr' := List.pairwise_cons.1 hr
    have ih := putL_place (y := y) hr'.2
    unfold putL placeL
    by_cases hx : x.client < y.client
    · rw [if_pos hx, if_pos hx, ih]
      simp only [List.getD_cons_succ, List.length_cons, Nat.add_lt_add_iff_right, List.set_cons_succ, insAt, List.take_succ_cons, List.drop_succ_cons, List.cons_append]
      split <;> rfl
    · rw [if_neg hx, if_neg hx]
      by_cases hk : x.client = y.client
      · simp [hk]
      · rw [if_neg hk, if_neg (by simp [hk])]
        simp [insAt]
/-- What stays is put back at its place. -/
theorem back_place {l : List KC} {k : List UInt8} (h : riseK l) (hp : placeC l k < l.length ∧ (l.getD (placeC l k) celZ).1 = k) : insAt (l.eraseIdx (placeC l k)) (placeC l k) (k, (l.getD (placeC l k) celZ).2) = l := by
  obtain ⟨h1, h2⟩ := hp
  have e : (k, (l.getD (placeC l k) celZ).2) = l[placeC l k]'h1 := by
    have : l.getD (placeC l k) celZ = l[placeC l k]'h1 := by simp [List.getD, List.getElem?_eq_getElem h1]
    rw [this] at h2 ⊢
    exact Prod.ext h2.symm rfl
  unfold insAt
  rw [e, List.eraseIdx_eq_take_drop_succ]
  rw [List.take_append_of_le_length (by simp; omega), List.drop_append, List.take_take, Nat.min_self, List.drop_take_self]
  simp only [List.length_take, Nat.min_eq_left (Nat.le_of_lt h1), Nat.sub_self, List.drop_zero, List.nil_append]
  rw [← List.drop_eq_getElem_cons h1, List.take_append_drop]
theorem putL_mem : ∀ {l : List LaM} {y x : LaM}, x ∈ putL l y → x = y ∨ x ∈ l
  | [], y, x, h => by simp [putL] at h; exact .inl h
  | a :: r, y, x, h => by
    unfold putL at h
    split at h
    · rcases List.mem_cons.1 h with rfl | h
      · exact .inr (by simp)
      · rcases putL_mem h with h | h
        · exact .inl h
        · exact .inr (by simp [h])
    · split at h
      · rcases List.mem_cons.1 h with rfl | h
        · exact .inl rfl
        · exact .inr (by simp [h])
      · rcases List.mem_cons.1 h with rfl | h
        · exact .inl rfl
        · exact .inr h
theorem putL_rise : ∀ {l : List LaM} {y : LaM}, riseL l → riseL (putL l y)
  | [], _, _ => List.pairwise_singleton _ _
  | a :: r, y, h => by
    have h' := List.pairwise_cons.1 h
    unfold putL
    split
    · rename_i hlt
      refine List.pairwise_cons.2 ⟨fun z hz => ?_, putL_rise h'.2⟩
      rcases putL_mem hz with rfl | hz
      · exact hlt
      · exact h'.1 z hz
    · split
      · rename_i _ he
        exact List.pairwise_cons.2 ⟨fun z hz => he ▸ h'.1 z hz, h'.2⟩
      · rename_i h1 h2
        refine List.pairwise_cons.2 ⟨fun z hz => ?_, h⟩
        rcases List.mem_cons.1 hz with rfl | hz
        · omega
        · have := h'.1 z hz; omega
theorem findL_put : ∀ {l : List LaM} {y : LaM} (c : Int), riseL l → findL (putL l y) c = if c = y.client then some y else findL l c
  | [], y, c, _ => by
    simp only [putL, findL]
    by_cases h : c = y.client
    · rw [if_pos h, if_pos h.symm]
    · rw [if_neg h, if_neg (fun e => h e.symm)]
  | a :: r, y, c, h => by
    have h' := List.pairwise_cons.1 h
    have ih := findL_put (y := y) c h'.2
    unfold putL
    split
    · rename_i hlt
      simp only [findL]
      by_cases h1 : a.client = c
      · rw [if_pos h1, if_neg (by omega), if_pos h1]
      · rw [if_neg h1, ih, if_neg h1]
    · split
      · rename_i _ he
        simp only [findL]
        by_cases h1 : c = y.client
        · rw [if_pos h1.symm, if_pos h1]
        · rw [if_neg (fun e => h1 e.symm), if_neg h1, if_neg (fun e => h1 (by omega))]
      · rename_i h1 h2
        simp only [findL]
        by_cases h3 : c = y.client
        · rw [if_pos h3.symm, if_pos h3]
        · rw [if_neg (fun e => h3 e.symm), if_neg h3]
theorem findL_mem : ∀ {l : List LaM} {c : Int} {x : LaM}, findL l c = some x → x ∈ l ∧ x.client = c
  | [], _, _, h => by cases h
  | a :: r, c, x, h => by
    unfold findL at h
    split at h
    · cases h; exact ⟨by simp, by assumption⟩
    · have := findL_mem h; exact ⟨by simp [this.1], this.2⟩
theorem findC_mem : ∀ {l : List KC} {c : List UInt8} {x : List UInt8 × Int}, findC l c = some x → (c, x) ∈ l
  | [], _, _, h => by cases h
  | a :: r, c, x, h => by
    unfold findC at h
    split at h
    · cases h
      rename_i e
      rw [← e]; simp
    · have := findC_mem h; simp [this]
end Go.Proofs.Ytfkbodonidkpoaa
