/-
  What the document's store and log do: plain lists. No program in sight, no condition.
-/
import Derived.Test.YtlphkjbadjdleaaLogM
namespace Go.Proofs.Ytlphkjbadjdleaa
def celZ : KC := ([], [], 0)
/-- The cells without a key's. -/
def dropC (cs : List KC) (k : List UInt8) : List KC := cs.filter fun c => !(c.1 == k)
/-- Where a key stands. -/
def placeC : List KC → List UInt8 → Nat
  | [], _ => 0
  | c :: r, k => if Op.bytesLess c.1 k = true then placeC r k + 1 else 0
def insC (cs : List KC) (k v : List UInt8) (n : Int) : List KC := (dropC cs k).take (placeC (dropC cs k) k) ++ [(k, v, n)] ++ (dropC cs k).drop (placeC (dropC cs k) k)
def effD (cs : List KC) (k : List UInt8) : Eff → List KC
  | .stay => cs
  | .gone => dropC cs k
  | .put v n => insC cs k v n
def applyD (cs : List KC) (n : Int) (o : OpM) : List KC × ResM := (effD cs o.key (effM (findC cs o.key) n o).1, (effM (findC cs o.key) n o).2)
theorem placeC_le : ∀ (cs : List KC) (k : List UInt8), placeC cs k ≤ cs.length
  | [], _ => Nat.le_refl _
  | c :: r, k => by
    have := placeC_le r k
    unfold placeC
    split <;> simp <;> omega
theorem dropC_len (cs : List KC) (k : List UInt8) : (dropC cs k).length ≤ cs.length := List.length_filter_le _ _
theorem findC_drop : ∀ (cs : List KC) (k k' : List UInt8), findC (dropC cs k) k' = if k' = k then none else findC cs k'
  | [], _, _ => by simp [dropC, findC]
  | c :: r, k, k' => by
    have ih := findC_drop r k k'
    unfold dropC at ih ⊢
    by_cases h : c.1 = k
    · simp only [List.filter, h, beq_self_eq_true, Bool.not_true]
      rw [ih]
      simp only [findC]
      split
      · rfl
      · rw [if_neg (by rw [h]; exact fun e => by simp_all)]
    · have hb : (!(c.1 == k)) = true := by simpa using h
      simp only [List.filter, hb, findC]
      rw [ih]
      by_cases h' : c.1 = k'
      · rw [if_pos h', if_neg (by rw [← h']; exact h), if_pos h']
      · rw [if_neg h', if_neg h']
theorem findC_app : ∀ (a b : List KC) (k : List UInt8), findC (a ++ b) k = (findC a k).orElse fun _ => findC b k
  | [], _, _ => by simp [findC]
  | c :: r, b, k => by
    simp only [List.cons_append, findC]
    split
    · rfl
    · exact findC_app r b k
theorem findC_ins (cs : List KC) (k v : List UInt8) (n : Int) (k' : List UInt8) : findC (insC cs k v n) k' = if k' = k then some (v, n) else findC cs k' := by
  have hd := findC_drop cs k k'
  generalize hl : dropC cs k = l at hd
  generalize hm : placeC l k = m
  have hs : findC l k' = (findC (l.take m) k').orElse fun _ => findC (l.drop m) k' := by rw [← findC_app, List.take_append_drop]
  unfold insC
  rw [hl, hm, findC_app, findC_app]
  by_cases h : k' = k
  · rw [if_pos h] at hd ⊢
    rw [hd] at hs
    have h1 : findC (l.take m) k' = none := by
      cases h2 : findC (l.take m) k' with
      | none => rfl
      | some x => rw [h2] at hs; cases hs
    rw [h1]
    simp [findC, h]
  · rw [if_neg h] at hd ⊢
    rw [← hd, hs]
    have : findC [(k, v, n)] k' = none := by simp only [findC]; rw [if_neg (fun e => h (Eq.symm e))]
    rw [this]
    cases findC (l.take m) k' <;> rfl
theorem findC_set : ∀ (cs : List KC) (k v : List UInt8) (n : Int) (k' : List UInt8), findC (setC cs k v n) k' = if k' = k then some (v, n) else findC cs k'
  | [], k, v, n, k' => by simp only [setC, findC, eq_comm]
  | c :: r, k, v, n, k' => by
    have ih := findC_set r k v n k'
    simp only [setC]
    by_cases h : c.1 = k
    · simp only [h, if_true, findC]
      by_cases h' : k' = k
      · simp [h']
      · rw [if_neg h', if_neg (fun e => h' e.symm), if_neg (fun e => h' e.symm)]
    · rw [if_neg h]
      simp only [findC, ih]
      by_cases h' : k' = k
      · rw [if_pos h', if_neg (by rw [h']; exact h), if_pos h']
      · rw [if_neg h', if_neg h']
/-- No key stands twice. -/
def uniC (cs : List KC) : Prop := (cs.map (·.1)).Nodup
theorem findC_none : ∀ {cs : List KC} {k : List UInt8}, (k ∉ cs.map (·.1)) → findC cs k = none
  | [], _, _ => rfl
  | c :: r, k, h => by
    simp only [List.map_cons, List.mem_cons, not_or] at h
    simp only [findC]
    rw [if_neg (fun e => h.1 e.symm)]
    exact findC_none h.2
theorem findC_del : ∀ (cs : List KC) (k : List UInt8) (k' : List UInt8), uniC cs → findC (delC cs k) k' = if k' = k then none else findC cs k'
  | [], k, k', _ => by simp [delC, findC]
  | c :: r, k, k', hu => by
    have hu' := List.nodup_cons.1 hu
    have ih := findC_del r k k' hu'.2
    simp only [delC]
    by_cases h : c.1 = k
    · simp only [h, if_true, findC]
      by_cases h' : k' = k
      · rw [if_pos h', h', ← h]
        exact findC_none hu'.1
      · rw [if_neg h', if_neg (fun e => h' e.symm)]
    · rw [if_neg h]
      simp only [findC, ih]
      by_cases h' : k' = k
      · rw [if_pos h', if_neg (by rw [h']; exact h), if_pos h']
      · rw [if_neg h', if_neg h']
theorem setC_keys : ∀ (cs : List KC) (k v : List UInt8) (n : Int) (x : List UInt8), x ∈ (setC cs k v n).map (·.1) → x = k ∨ x ∈ cs.map (·.1)
  | [], k, v, n, x => by simp [setC]
  | c :: r, k, v, n, x => by
    have ih := setC_keys r k v n x
    simp only [setC]
    split
    · simp
      rintro (h | h)
      · exact .inl h
      · exact .inr (.inr h)
    · intro h
      simp only [List.map_cons, List.mem_cons] at h ⊢
      rcases h with h | h
      · exact .inr (.inl h)
      · rcases ih h with h | h
        · exact .inl h
        · exact .inr (.inr h)
theorem uniC_set : ∀ {cs : List KC} (k v : List UInt8) (n : Int), uniC cs → uniC (setC cs k v n)
  | [], k, v, n, _ => by simp [setC, uniC]
  | c :: r, k, v, n, h => by
    have h' := List.nodup_cons.1 h
    simp only [setC]
    split
    · rename_i hc
      refine List.nodup_cons.2 ⟨?_, h'.2⟩
      rw [← hc]
      exact h'.1
    · rename_i hc
      refine List.nodup_cons.2 ⟨fun hm => ?_, uniC_set (cs := r) k v n h'.2⟩
      rcases setC_keys r k v n _ hm with e | e
      · exact hc e
      · exact h'.1 e
theorem delC_sub : ∀ (cs : List KC) (k : List UInt8), (delC cs k).Sublist cs
  | [], _ => List.Sublist.refl _
  | c :: r, k => by
    simp only [delC]
    split
    · exact List.sublist_cons_self _ _
    · exact (delC_sub r k).cons_cons c
theorem uniC_del {cs : List KC} (k : List UInt8) (h : uniC cs) : uniC (delC cs k) := ((delC_sub cs k).map _).nodup h
theorem uniC_apply {cs : List KC} (n : Int) (o : OpM) (h : uniC cs) : uniC (applyM cs n o).1 := by
  unfold applyM
  cases (effM (findC cs o.key) n o).1 with
  | stay => exact h
  | gone => exact uniC_del _ h
  | put v m => exact uniC_set _ _ _ h
/-- Two stores that have the same. -/
def sameC (a b : List KC) : Prop := ∀ k, findC a k = findC b k
theorem sameC_apply {a b : List KC} (n : Int) (o : OpM) (h : sameC a b) (ha : uniC a) : sameC (applyM a n o).1 (applyD b n o).1 ∧ (applyM a n o).2 = (applyD b n o).2 := by
  unfold applyM applyD
  rw [h o.key]
  refine ⟨fun k => ?_, rfl⟩
  cases (effM (findC b o.key) n o).1 with
  | stay => exact h k
  | gone => simp only [effC, effD, findC_del _ _ _ ha, findC_drop, h k]
  | put v m => simp only [effC, effD, findC_set, findC_ins, h k]
/-- What all entries lead to, and each one's result. -/
def cellsN (l : List EntM) : Nat → List KC × List ResM
  | 0 => ([], [])
  | i + 1 => ((applyD (cellsN l i).1 (i + 1) (l.getD i entZ).op).1, (cellsN l i).2 ++ [(applyD (cellsN l i).1 (i + 1) (l.getD i entZ).op).2])
theorem getD_app {α : Type} {l r : List α} {i : Nat} {z : α} (h : i < l.length) : (l ++ r).getD i z = l.getD i z := by
  simp [List.getD, List.getElem?_append_left h]
theorem cellsN_app (l r : List EntM) : ∀ i, i ≤ l.length → cellsN (l ++ r) i = cellsN l i
  | 0, _ => rfl
  | i + 1, h => by
    have ih := cellsN_app l r i (by omega)
    simp only [cellsN, ih, getD_app (show i < l.length by omega)]
theorem cellsN_len (l : List EntM) : ∀ i, (cellsN l i).2.length = i
  | 0 => rfl
  | i + 1 => by simp [cellsN, cellsN_len l i]
theorem insC_len (cs : List KC) (k v : List UInt8) (n : Int) : (insC cs k v n).length ≤ cs.length + 1 := by
  have := dropC_len cs k
  simp [insC]
  omega
theorem applyD_len (cs : List KC) (n : Int) (o : OpM) : (applyD cs n o).1.length ≤ cs.length + 1 := by
  unfold applyD effD
  cases (effM (findC cs o.key) n o).1 with
  | stay => simp
  | gone => have := dropC_len cs o.key; simp only; omega
  | put v m => exact insC_len cs o.key v m
theorem cellsN_len1 (l : List EntM) : ∀ i, (cellsN l i).1.length ≤ i
  | 0 => Nat.le_refl _
  | i + 1 => by
    have := applyD_len (cellsN l i).1 (i + 1) (l.getD i entZ).op
    have := cellsN_len1 l i
    simp only [cellsN]
    omega
/-- A client's last one among the first so many. -/
def lastD (l : List EntM) (c : Int) : Nat → Int × Int
  | 0 => (0, 0)
  | i + 1 => if (l.getD i entZ).client = c then ((l.getD i entZ).seq, (i : Int) + 1) else lastD l c i
theorem lastD_app (l r : List EntM) (c : Int) : ∀ i, i ≤ l.length → lastD (l ++ r) c i = lastD l c i
  | 0, _ => rfl
  | i + 1, h => by
    have ih := lastD_app l r c i (by omega)
    simp only [lastD, ih, getD_app (show i < l.length by omega)]
/-- A log is the document's. -/
structure LogD (l : LogM) : Prop where
  ok : l.ok
  uni : uniC l.cs
  cells : sameC l.cs (cellsN l.ents l.ents.length).1
  ress : l.ress = (cellsN l.ents l.ents.length).2
  last : ∀ c : Int, 0 ≤ c → c < 6 → l.la c.toNat = lastD l.ents c l.ents.length
  out : ∀ c : Int, c < 0 ∨ 6 ≤ c → lastD l.ents c l.ents.length = (0, 0)
theorem logZ_D : LogD logZ :=
  ⟨logZ_ok, List.nodup_nil, fun _ => rfl, rfl, fun _ _ _ => rfl, fun _ _ => rfl⟩
theorem LogD.put {l : LogM} (h : LogD l) {e : EntM} (he : logErr l e = 0) : LogD (logPut l e) := by
  obtain ⟨⟨a1, a2, a3, a4, a5⟩, a6, a7, a8⟩ := logErr_0.1 he
  have hl : (logPut l e).ents = l.ents ++ [e] := rfl
  have hg : (l.ents ++ [e]).getD l.ents.length entZ = e := by simp [List.getD]
  have hc : cellsN (l.ents ++ [e]) (l.ents.length + 1) = ((applyD (cellsN l.ents l.ents.length).1 (l.ents.length + 1) e.op).1, (cellsN l.ents l.ents.length).2 ++ [(applyD (cellsN l.ents l.ents.length).1 (l.ents.length + 1) e.op).2]) := by
    simp only [cellsN, cellsN_app l.ents [e] _ (Nat.le_refl _), hg]
  have hs := sameC_apply e.index e.op h.cells h.uni
  refine ⟨logPut_ok h.ok he, uniC_apply _ _ h.uni, ?_, ?_, fun c h0 h6 => ?_, fun c ho => ?_⟩
  · rw [hl, show (l.ents ++ [e]).length = l.ents.length + 1 by simp, hc]
    show sameC (applyM l.cs e.index e.op).1 _
    rw [← a7]
    exact hs.1
  · rw [hl, show (l.ents ++ [e]).length = l.ents.length + 1 by simp, hc]
    show l.ress ++ [(applyM l.cs e.index e.op).2] = _
    rw [← a7, h.ress, hs.2]
  · rw [hl, show (l.ents ++ [e]).length = l.ents.length + 1 by simp]
    show (if c.toNat = e.client.toNat then (e.seq, e.index) else l.la c.toNat) = _
    simp only [lastD, hg, lastD_app l.ents [e] c _ (Nat.le_refl _)]
    by_cases hcc : e.client = c
    · rw [if_pos (by rw [hcc]), if_pos hcc, a7]
    · rw [if_neg (by omega), if_neg hcc]
      exact h.last c h0 h6
  · rw [hl, show (l.ents ++ [e]).length = l.ents.length + 1 by simp]
    simp only [lastD, hg, lastD_app l.ents [e] c _ (Nat.le_refl _)]
    rw [if_neg (by omega)]
    exact h.out c ho
theorem LogD.lasts {l : LogM} (h : LogD l) (c : Int) : (if c < 0 ∨ 6 ≤ c then (0, 0) else l.la c.toNat) = lastD l.ents c l.ents.length := by
  split
  · rename_i hc; exact (h.out c hc).symm
  · rename_i hc; exact h.last c (by omega) (by omega)
end Go.Proofs.Ytlphkjbadjdleaa
