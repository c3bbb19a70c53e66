/-
  What a log that calls are held against keeps. Plain lists, no condition.
-/
import Derived.Test.YtlphkjbadjdleaaLinW
import Derived.Test.YtlphkjbadjdleaaMapL
namespace Go.Proofs.Ytlphkjbadjdleaa
theorem firstN_snoc (d : List EntM) (e : EntM) (c s : Int) : firstN (d ++ [e]) c s = (firstN d c s).or (if isOf c s e = true then some d.length else none) := by
  unfold firstN
  rw [List.findIdx?_append]
  by_cases h : isOf c s e = true <;> simp [List.findIdx?_cons, h]
theorem countN_snoc (d : List EntM) (e : EntM) (c s : Int) : countN (d ++ [e]) c s = countN d c s + if isOf c s e = true then 1 else 0 := by
  unfold countN
  rw [List.filter_append]
  by_cases h : isOf c s e = true <;> simp [h]
theorem take_snoc {d : List EntM} {n : Nat} (h : n < d.length) : d.take (n + 1) = d.take n ++ [d.getD n entZ] := by
  rw [List.take_add_one, List.getD_eq_getElem?_getD, List.getElem?_eq_getElem h]
  rfl
theorem first_count {d : List EntM} {c s : Int} : firstN d c s = none ↔ countN d c s = 0 := by
  unfold firstN countN
  rw [List.findIdx?_eq_none_iff, List.length_eq_zero_iff, List.filter_eq_nil_iff]
  constructor <;> intro h x hx <;> have := h x hx <;> simpa using this
/-- The keys of the two maps. -/
def callV (c s : Int) : Value := .agg ⟨[.int .i64 c, .int .i64 s]⟩
def lookV2 (a : Int) (k : List UInt8) : Value := .agg ⟨[.int .i64 a, S k]⟩
theorem callV_eq (c s c' s' : Int) : keyEq (callV c s) (callV c' s') = (decide (c = c') && decide (s = s')) := by
  simp only [callV, keyEq, keyEqL, keyEq1, Bool.and_true]
  rw [Bool.eq_iff_iff]; simp
theorem lookV2_eq (a : Int) (k : List UInt8) (a' : Int) (k' : List UInt8) : keyEq (lookV2 a k) (lookV2 a' k') = (decide (a = a') && decide (k = k')) := by
  have := keyEq_S k k'
  simp only [lookV2, keyEq, keyEqL, Bool.and_true]
  rw [Bool.eq_iff_iff]
  simp [S, keyEq1]
theorem callV_ok (c s : Int) : keyOK true [.int .i64 0, .int .i64 0] (callV c s) = true := by simp [callV, keyOK, sameKinds, sameKind]
theorem lookV2_ok (a : Int) (k : List UInt8) : keyOK true [.int .i64 0, S []] (lookV2 a k) = true := by simp [lookV2, keyOK, sameKinds, sameKind, S]
/-- What there is of a call, so many entries on. -/
def standCs (d : List EntM) (i n : Nat) : List Value := [.int .i64 i, .int .i64 n, .int .i64 (d.getD i entZ).op.kind, S (d.getD i entZ).op.key, S (d.getD i entZ).op.value, .int .i64 (d.getD i entZ).op.version] ++ resC (didN d i)
def standOf (d : List EntM) (n : Nat) (c s : Int) : Option Value := (firstN (d.take n) c s).map fun i => .agg ⟨standCs d i (countN (d.take n) c s)⟩
structure StandOK (d : List EntM) (n : Nat) (es : List (Value × Value)) : Prop where
  keys : ∀ p ∈ es, keyOK true [.int .i64 0, .int .i64 0] p.1 = true
  look : ∀ c s, lookE es (callV c s) = standOf d n c s
theorem standOK_0 (d : List EntM) : StandOK d 0 [] := ⟨fun p h => by simp at h, fun c s => rfl⟩
theorem standOK_next {d : List EntM} {n : Nat} {es : List (Value × Value)} (h : StandOK d n es) (hn : n < d.length) {i : Nat}
    (hi : firstN (d.take n) (d.getD n entZ).client (d.getD n entZ).seq = some i ∨ (firstN (d.take n) (d.getD n entZ).client (d.getD n entZ).seq = none ∧ i = n)) :
    StandOK d (n + 1) (updE es (callV (d.getD n entZ).client (d.getD n entZ).seq) (.agg ⟨standCs d i (countN (d.take n) (d.getD n entZ).client (d.getD n entZ).seq + 1)⟩)) := by
  refine ⟨fun p hp => ?_, fun c s => ?_⟩
  · -- keys
    have : ∀ {es : List (Value × Value)} {k v : Value}, keyOK true [.int .i64 0, .int .i64 0] k = true → (∀ p ∈ es, keyOK true [.int .i64 0, .int .i64 0] p.1 = true) → ∀ p ∈ updE es k v, keyOK true [.int .i64 0, .int .i64 0] p.1 = true := by
      intro es k v hk
      induction es with
      | nil => intro _ p hp; simp [updE] at hp; subst hp; exact hk
      | cons q es ih =>
        intro he p hp
        unfold updE at hp
        split at hp
        · rcases List.mem_cons.1 hp with rfl | hp
          · exact hk
          · exact he p (List.mem_cons_of_mem _ hp)
        · rcases List.mem_cons.1 hp with rfl | hp
          · exact he _ (by simp)
          · exact ih (fun x hx => he x (List.mem_cons_of_mem _ hx)) p hp
    exact this (callV_ok _ _) h.keys p hp
  · rw [lookE_upd (callV_ok _ _) (callV_ok _ _) h.keys, callV_eq, h.look]
    unfold standOf
    rw [take_snoc hn, firstN_snoc, countN_snoc]
    generalize d.getD n entZ = e at hi ⊢
    have hlen : (d.take n).length = n := by rw [List.length_take]; omega
    by_cases hcs : c = e.client ∧ s = e.seq
    · obtain ⟨rfl, rfl⟩ := hcs
      have ho : isOf e.client e.seq e = true := by simp [isOf]
      simp only [decide_true, Bool.and_self, if_true, ho, hlen]
      rcases hi with hi | ⟨hi, rfl⟩
      · rw [hi]; rfl
      · rw [hi]; rfl
    · have h1 : (decide (c = e.client) && decide (s = e.seq)) = false := by simpa using hcs
      have ho : isOf c s e = false := by
        simp only [isOf, Bool.and_eq_false_iff, beq_eq_false_iff_ne]
        by_cases h2 : e.client = c
        · exact .inr fun h3 => hcs ⟨h2.symm, h3.symm⟩
        · exact .inl h2
      simp [h1, ho]
/-- What is read, of those that are wanted. -/
structure ReadsOK (d : List EntM) (W : Int → List UInt8 → Prop) (es : List (Value × Value)) : Prop where
  keys : ∀ p ∈ es, keyOK true [.int .i64 0, S []] p.1 = true
  look : ∀ a k, W a k → lookE es (lookV2 a k) = some (resV (readN d k a.toNat))
theorem readsOK_0 (d : List EntM) : ReadsOK d (fun _ _ => False) [] := ⟨fun p h => by simp at h, fun _ _ h => h.elim⟩
theorem readsOK_next {d : List EntM} {W : Int → List UInt8 → Prop} {es : List (Value × Value)} (h : ReadsOK d W es) (a : Nat) (k : List UInt8) :
    ReadsOK d (fun b q => W b q ∨ (b = a ∧ q = k)) (updE es (lookV2 a k) (resV (readN d k a))) := by
  refine ⟨fun p hp => ?_, fun b q hb => ?_⟩
  · have : ∀ {es : List (Value × Value)} {k v : Value}, keyOK true [.int .i64 0, S []] k = true → (∀ p ∈ es, keyOK true [.int .i64 0, S []] p.1 = true) → ∀ p ∈ updE es k v, keyOK true [.int .i64 0, S []] p.1 = true := by
      intro es k v hk
      induction es with
      | nil => intro _ p hp; simp [updE] at hp; subst hp; exact hk
      | cons q es ih =>
        intro he p hp
        unfold updE at hp
        split at hp
        · rcases List.mem_cons.1 hp with rfl | hp
          · exact hk
          · exact he p (List.mem_cons_of_mem _ hp)
        · rcases List.mem_cons.1 hp with rfl | hp
          · exact he _ (by simp)
          · exact ih (fun x hx => he x (List.mem_cons_of_mem _ hx)) p hp
    exact this (lookV2_ok _ _) h.keys p hp
  · rw [lookE_upd (lookV2_ok _ _) (lookV2_ok _ _) h.keys, lookV2_eq]
    by_cases hbq : b = (a : Int) ∧ q = k
    · obtain ⟨rfl, rfl⟩ := hbq
      simp
    · have h1 : (decide (b = (a : Int)) && decide (q = k)) = false := by simpa using hbq
      rw [h1]
      simp only [Bool.false_eq_true, if_false]
      exact h.look b q (hb.resolve_right hbq)
theorem updE_ok {zk : List Value} : ∀ {es : List (Value × Value)} {k v : Value}, keyOK true zk k = true → (∀ p ∈ es, keyOK true zk p.1 = true) → ∀ p ∈ updE es k v, keyOK true zk p.1 = true
  | [], k, v, hk, _, p, hp => by simp [updE] at hp; subst hp; exact hk
  | q :: es, k, v, hk, he, p, hp => by
    unfold updE at hp
    split at hp
    · rcases List.mem_cons.1 hp with rfl | hp
      · exact hk
      · exact he p (List.mem_cons_of_mem _ hp)
    · rcases List.mem_cons.1 hp with rfl | hp
      · exact he _ (by simp)
      · exact updE_ok hk (fun x hx => he x (List.mem_cons_of_mem _ hx)) p hp
/-- The third map: how many records are an entry's own. -/
def ownV (c s : Int) (o : OpM) : Value := .agg ⟨[.int .i64 c, .int .i64 s, .int .i64 o.kind, S o.key, S o.value, .int .i64 o.version]⟩
abbrev ownZ : List Value := [.int .i64 0, .int .i64 0, .int .i64 0, S [], S [], .int .i64 0]
theorem ownV_ok (c s : Int) (o : OpM) : keyOK true ownZ (ownV c s o) = true := by simp [ownV, ownZ, keyOK, sameKinds, sameKind, S]
theorem ownV_eq (c s : Int) (o : OpM) (c' s' : Int) (o' : OpM) : keyEq (ownV c s o) (ownV c' s' o') = decide (c = c' ∧ s = s' ∧ o = o') := by
  obtain ⟨k1, k2, k3, k4⟩ := o
  obtain ⟨j1, j2, j3, j4⟩ := o'
  rw [Bool.eq_iff_iff]
  simp only [ownV, keyEq, keyEqL, Bool.and_true, S, keyEq1, Bool.and_eq_true, decide_eq_true_eq, beq_iff_eq, OpM.mk.injEq]
def isOwn (c s : Int) (o : OpM) (r : RecM) : Bool := decide (r.client = c ∧ r.seq = s ∧ r.op = o)
def ownN (l : List RecM) (c s : Int) (o : OpM) : Nat := (l.filter (isOwn c s o)).length
structure OwnsOK (l : List RecM) (n : Nat) (es : List (Value × Value)) : Prop where
  keys : ∀ p ∈ es, keyOK true ownZ p.1 = true
  look : ∀ c s o, lookE es (ownV c s o) = if ownN (l.take n) c s o = 0 then none else some (.int .i64 (ownN (l.take n) c s o))
theorem ownsOK_0 (l : List RecM) : OwnsOK l 0 [] := ⟨fun p h => by simp at h, fun c s o => rfl⟩
theorem ownN_snoc {l : List RecM} {n : Nat} (h : n < l.length) (c s : Int) (o : OpM) : ownN (l.take (n + 1)) c s o = ownN (l.take n) c s o + if isOwn c s o (l.getD n recZ) = true then 1 else 0 := by
  have e : l.take (n + 1) = l.take n ++ [l.getD n recZ] := by
    rw [List.take_add_one, List.getD_eq_getElem?_getD, List.getElem?_eq_getElem h]
    rfl
  rw [e]
  unfold ownN
  rw [List.filter_append]
  generalize l.getD n recZ = r
  by_cases h : isOwn c s o r = true <;> simp [h]
theorem ownsOK_next {l : List RecM} {n : Nat} {es : List (Value × Value)} (h : OwnsOK l n es) (hn : n < l.length) (z : Value) :
    OwnsOK l (n + 1) (updE (updE es (ownV (l.getD n recZ).client (l.getD n recZ).seq (l.getD n recZ).op) z) (ownV (l.getD n recZ).client (l.getD n recZ).seq (l.getD n recZ).op)
      (.int .i64 ((ownN (l.take n) (l.getD n recZ).client (l.getD n recZ).seq (l.getD n recZ).op : Nat) + 1))) := by
  have hk1 := updE_ok (v := z) (ownV_ok (l.getD n recZ).client (l.getD n recZ).seq (l.getD n recZ).op) h.keys
  refine ⟨updE_ok (ownV_ok _ _ _) hk1, fun c s o => ?_⟩
  rw [lookE_upd (ownV_ok _ _ _) (ownV_ok _ _ _) hk1, lookE_upd (ownV_ok _ _ _) (ownV_ok _ _ _) h.keys, ownV_eq, h.look, ownN_snoc hn]
  generalize l.getD n recZ = r
  by_cases hr : c = r.client ∧ s = r.seq ∧ o = r.op
  · obtain ⟨rfl, rfl, rfl⟩ := hr
    simp [isOwn]
  · have h2 : isOwn c s o r = false := by
      simp only [isOwn, decide_eq_false_iff_not]
      exact fun ⟨a, b, e⟩ => hr ⟨a.symm, b.symm, e.symm⟩
    simp [hr, h2]
theorem ownN_pos {l : List RecM} {c s : Int} {o : OpM} : ¬ ownN l c s o = 0 ↔ ∃ r ∈ l, r.client = c ∧ r.seq = s ∧ r.op = o := by
  unfold ownN
  rw [List.length_eq_zero_iff, List.filter_eq_nil_iff]
  simp only [isOwn, decide_eq_true_eq, Classical.not_forall, Classical.not_not]
  constructor
  · rintro ⟨r, hr, h⟩; exact ⟨r, hr, h⟩
  · rintro ⟨r, hr, h⟩; exact ⟨r, hr, h⟩
end Go.Proofs.Ytlphkjbadjdleaa
