/-
  A region that draws its order: its pieces, one after the other. No condition.
-/
import Derived.Test.YtlphkjbadjdleaaRxH
namespace Go.Proofs.Ytlphkjbadjdleaa

/-- The pieces of a region, by masks of 128 bits each in one number (what comes out is checked by drawB). -/
noncomputable def orW (M : Nat) (l : List Edge) : Nat :=
  @List.rec Edge (fun _ => Nat) 0 (fun e _ ih => match Region.binds .any e with
    | true => Nat.lor (Nat.lor (Nat.shiftLeft 1 e.on) (Nat.land (Nat.shiftRight M (Nat.mul 128 e.on)) 340282366920938463463374607431768211455)) ih
    | false => ih) l
noncomputable def packM (l : List Oper) : Nat → Nat → Nat :=
  @List.rec Oper (fun _ => Nat → Nat → Nat) (fun _ M => M) (fun o _ ih k M => match Nat.beq M 0 with
    | true => ih (Nat.add k 1) (Nat.lor M (Nat.shiftLeft (orW M o.after.toList) (Nat.mul 128 k)))
    | false => ih (Nat.add k 1) (Nat.lor M (Nat.shiftLeft (orW M o.after.toList) (Nat.mul 128 k)))) l
noncomputable def ones (l : List Oper) : Nat := @List.rec Oper (fun _ => Nat) 0 (fun _ _ ih => Nat.add (Nat.mul ih 340282366920938463463374607431768211456) 1) l
def isCut (M on m oc : Nat) : Bool := Nat.beq (Nat.land M (Nat.mul m (Nat.sub on oc))) (Nat.mul m (Nat.sub on oc))
def consP (o : Oper) (ps : List (List Oper)) : List (List Oper) := match ps with
  | [] => [[o]]
  | p :: ps => (o :: p) :: ps
noncomputable def piecesL (M on : Nat) (l : List Oper) : Nat → Nat → List (List Oper) :=
  @List.rec Oper (fun _ => Nat → Nat → List (List Oper)) (fun _ _ => []) (fun o _ ih m oc => match isCut M on (Nat.add (Nat.mul m 2) 1) (Nat.add (Nat.mul oc 340282366920938463463374607431768211456) 1) with
    | true => [o] :: ih (Nat.add (Nat.mul m 2) 1) (Nat.add (Nat.mul oc 340282366920938463463374607431768211456) 1)
    | false => consP o (ih (Nat.add (Nat.mul m 2) 1) (Nat.add (Nat.mul oc 340282366920938463463374607431768211456) 1))) l
noncomputable def piecesOf (ops : Array Oper) : List (List Oper) := piecesL (packM ops.toList 0 0) (ones ops.toList) ops.toList 0 0
theorem piecesL_flat (M on : Nat) : ∀ (l : List Oper) (m oc : Nat), (piecesL M on l m oc).flatten = l
  | [], _, _ => rfl
  | o :: r, m, oc => by
    have ih := piecesL_flat M on r (Nat.add (Nat.mul m 2) 1) (Nat.add (Nat.mul oc 340282366920938463463374607431768211456) 1)
    show (match isCut M on (Nat.add (Nat.mul m 2) 1) (Nat.add (Nat.mul oc 340282366920938463463374607431768211456) 1) with
      | true => [o] :: piecesL M on r (Nat.add (Nat.mul m 2) 1) (Nat.add (Nat.mul oc 340282366920938463463374607431768211456) 1)
      | false => consP o (piecesL M on r (Nat.add (Nat.mul m 2) 1) (Nat.add (Nat.mul oc 340282366920938463463374607431768211456) 1))).flatten = o :: r
    split
    · rw [List.flatten_cons, ih]; rfl
    · cases h : piecesL M on r (Nat.add (Nat.mul m 2) 1) (Nat.add (Nat.mul oc 340282366920938463463374607431768211456) 1) with
      | nil => rw [h] at ih; simp at ih; simp [consP, ← ih]
      | cons p ps => rw [h] at ih; simp only [consP, List.flatten_cons, List.cons_append] at ih ⊢; rw [ih]

/-- The mask of an operation. -/
def mkOf (M k : Nat) : Nat := Nat.land (Nat.shiftRight M (Nat.mul 128 k)) 340282366920938463463374607431768211455
def maskB (M : Nat) (ms : List Nat) (n : Nat) : Bool := (List.range n).all fun k => Nat.land (mkOf M k) (ms.getD k 0) == mkOf M k
/-- Two operations of one segment. -/
def pairB (ops : Array Oper) (ms : List Nat) (j k : Nat) : Bool := match ops[j]?, ops[k]? with
  | some oj, some ok =>
    (match oj.dst with
      | some d => (!(ok.looksAt ops).contains d || (ms.getD k 0).testBit j) && ok.dst != some d
      | none => true) &&
    (match ok.dst with
      | some d => !(oj.looksAt ops).contains d || (ms.getD k 0).testBit j
      | none => true)
  | _, _ => false
def segB (ops : Array Oper) (ms : List Nat) (b c : Nat) : Bool := (List.range c).all fun k => Nat.blt k b || (List.range k).all fun j => Nat.blt j b || pairB ops ms j k
def cutB (n : Nat) (ms : List Nat) (c : Nat) : Bool := (List.range n).all fun j => Nat.blt j c || Nat.land (ms.getD j 0) (2 ^ c - 1) == 2 ^ c - 1
def waitB (ops : Array Oper) : Bool := (List.range ops.size).all fun k => match ops[k]? with
  | some o => (waitL o).all fun m => Nat.blt m k
  | none => true
def piecesB (ops : Array Oper) (ms : List Nat) : Nat → List (List Oper) → Bool
  | _, [] => true
  | b, p :: ps => cutB ops.size ms (b + p.length) && (p.length == 1 || segB ops ms b (b + p.length)) && piecesB ops ms (b + p.length) ps
noncomputable def drawB (ops : Array Oper) : Bool := Region.noSelect ops && waitB ops && piecesB ops (masks ops.toList) 0 (piecesOf ops) && maskB (packM ops.toList 0 0) (masks ops.toList) ops.size

section
variable (P : Program) (w0 : World) (U : Nat → Prop) (T : Tab)
def joinH : List HE → List HE → (List HE → Prop) → Prop
  | [], ys, K => K ys
  | x :: xs, ys, K => joinH xs ys fun zs => K (x :: zs)
/-- What an operation sees of what was made. -/
def visK (mk : Nat) : List (Nat × HE) → (List HE → Prop) → Prop
  | [], K => K []
  | (j, e) :: r, K => match Nat.beq (Nat.mod (Nat.shiftRight mk j) 2) 1 with
    | true => visK mk r fun es => K (e :: es)
    | false => visK mk r fun es => K (.none :: es)
def bddA (n : Nat) : List HE → Bool
  | [] => true
  | e :: es => e.bdd n && bddA n es
def outM : List (Nat × HE) → (List HE → Prop) → Prop
  | [], K => K []
  | (_, e) :: ys, K => outM ys fun zs => K (e :: zs)
def appM : List (Nat × HE) → Nat × HE → (List (Nat × HE) → Prop) → Prop
  | [], y, K => K [y]
  | x :: xs, y, K => appM xs y fun ys => K (x :: ys)
def segCons (M : Nat) (ops : Array Oper) (H : List HE) (o : Oper) (ih : Nat → List SV → List (Nat × HE) → (List SV → List HE → Prop) → Prop) (k : Nat) (tm : List SV) (made : List (Nat × HE)) (K : List SV → List HE → Prop) : Prop :=
  visK (mkOf M k) made fun vis => joinH H vis fun Hv => natL lits (H.length + vis.length) fun N => Need (bddA N vis = true) (natL lits H.length fun nb => guardK ops tm o.guard
    (fun tm => sOp P w0 U T nb tm Hv N o.op fun s e => putK o.dst tm s fun tm' => match e with
      | some e => appM made (k, e) fun made' => ih (Nat.add k 1) tm' made' K
      | none => ih (Nat.add k 1) tm' made K)
    (fun tm => putK o.dst tm (.v undef) fun tm' => ih (Nat.add k 1) tm' made K))
def segNil (H : List HE) (_ : Nat) (tm : List SV) (made : List (Nat × HE)) (K : List SV → List HE → Prop) : Prop := outM made fun ms => joinH H ms fun H' => K tm H'
/-- The operations of a segment. -/
def xSeg (M : Nat) (ops : Array Oper) (H : List HE) (l : List Oper) : Nat → List SV → List (Nat × HE) → (List SV → List HE → Prop) → Prop :=
  @List.rec Oper (fun _ => Nat → List SV → List (Nat × HE) → (List SV → List HE → Prop) → Prop) (segNil H) (fun o _ ih => segCons P w0 U T M ops H o ih) l
noncomputable def lenA (p : List Oper) (k : Nat) : Nat := @List.rec Oper (fun _ => Nat → Nat) (fun k => k) (fun _ _ ih k => ih (Nat.add k 1)) p k
def drwCons (M : Nat) (ops : Array Oper) (p : List Oper) (ih : Nat → List SV → List HE → (List SV → List HE → Prop) → Prop) (k : Nat) (tm : List SV) (H : List HE) (K : List SV → List HE → Prop) : Prop := match p with
  | [o] => opsCons P w0 U T ops o (ih (Nat.add k 1)) tm H K
  | p => xSeg P w0 U T M ops H p k tm [] fun tm' H' => ih (lenA p k) tm' H' K
def drwNil (_ : Nat) (tm : List SV) (H : List HE) (K : List SV → List HE → Prop) : Prop := K tm H
/-- A region that draws its order. -/
def xDrw (M : Nat) (ops : Array Oper) (ps : List (List Oper)) : Nat → List SV → List HE → (List SV → List HE → Prop) → Prop :=
  @List.rec (List Oper) (fun _ => Nat → List SV → List HE → (List SV → List HE → Prop) → Prop) drwNil (fun p _ ih => drwCons P w0 U T M ops p ih) ps
end

theorem joinH_spec : ∀ (H made : List HE) (K : List HE → Prop), joinH H made K → K (H ++ made)
  | [], _, _, h => h
  | _ :: xs, made, _, h => joinH_spec xs made _ h
theorem lenA_eq : ∀ (p : List Oper) (k : Nat), lenA p k = k + p.length
  | [], _ => rfl
  | _ :: p, k => by
    show lenA p (Nat.add k 1) = _
    rw [lenA_eq p]
    simp only [Nat.add_eq, List.length_cons]
    omega
theorem outM_spec : ∀ (made : List (Nat × HE)) (K : List HE → Prop), outM made K → K (made.map (·.2))
  | [], _, h => h
  | (_, _) :: ys, _, h => outM_spec ys _ h
theorem appM_spec : ∀ (l : List (Nat × HE)) (y : Nat × HE) (K : List (Nat × HE) → Prop), appM l y K → K (l ++ [y])
  | [], _, _, h => h
  | _ :: xs, y, _, h => appM_spec xs y _ h
/-- The same as a list. -/
def visL (mk : Nat) (made : List (Nat × HE)) : List HE := made.map fun q => if Nat.testBit mk q.1 then q.2 else .none
theorem visK_spec (mk : Nat) : ∀ (made : List (Nat × HE)) (K : List HE → Prop), visK mk made K → K (visL mk made)
  | [], _, h => h
  | (j, e) :: r, K, h => by
    unfold visK at h
    have hb : Nat.testBit mk j = Nat.beq (Nat.mod (Nat.shiftRight mk j) 2) 1 := by
      rw [Nat.testBit_eq_decide_div_mod_eq]
      have e1 : Nat.mod (Nat.shiftRight mk j) 2 = mk / 2 ^ j % 2 := by
        show (mk >>> j) % 2 = _
        rw [Nat.shiftRight_eq_div_pow]
      rw [e1]
      cases hd : Nat.beq (mk / 2 ^ j % 2) 1
      · have := Nat.ne_of_beq_eq_false hd
        simpa using this
      · have := Nat.eq_of_beq_eq_true hd
        simpa using this
    split at h
    · rename_i hm
      have := visK_spec mk r _ h
      simp only [visL, List.map_cons, hb, hm, if_true]
      exact this
    · rename_i hm
      have := visK_spec mk r _ h
      simp only [visL, List.map_cons, hb, hm, Bool.false_eq_true, if_false]
      exact this
theorem bddA_spec {n : Nat} : ∀ {l : List HE}, bddA n l = true → ∀ e ∈ l, e.bdd n = true
  | x :: xs, h, e, he => by
    simp only [bddA, Bool.and_eq_true] at h
    rcases List.mem_cons.1 he with rfl | he
    · exact h.1
    · exact bddA_spec h.2 e he
def foldTm : List SV → List Oper → List (SV × Option HE) → List SV
  | tm, o :: l, q :: is => foldTm (setD tm o.dst q.1) l is
  | tm, _, _ => tm
theorem foldTm_snoc : ∀ (l : List Oper) (is : List (SV × Option HE)) (tm : List SV) (o : Oper) (q : SV × Option HE), is.length = l.length → foldTm tm (l ++ [o]) (is ++ [q]) = setD (foldTm tm l is) o.dst q.1
  | [], [], tm, o, q, _ => rfl
  | x :: l, y :: is, tm, o, q, h => by simpa [foldTm] using foldTm_snoc l is (setD tm x.dst y.1) o q (by simpa using h)
  | [], y :: is, tm, o, q, h => by simp at h
  | x :: l, [], tm, o, q, h => by simp at h

section
variable {P : Program} {w0 : World} {U : Nat → Prop} {T : Tab}
theorem xSeg_spec (hT : TabOK P T) {M : Nat} {ops : Array Oper} {H : List HE} : ∀ (l : List Oper) (k : Nat) (tm tm0 : List SV) (made : List (Nat × HE)) (K : List SV → List HE → Prop), DEq tm0 tm → xSeg P w0 U T M ops H l k tm made K →
    ∃ is : List (SV × Option HE), is.length = l.length ∧ (∃ tm', DEq (foldTm tm0 l is) tm' ∧ K tm' (H ++ (made.map (·.2) ++ is.filterMap (·.2)))) ∧
      ∀ i o q, l[i]? = some o → is[i]? = some q → ∃ vis : List HE, vis.length = (made.map (·.2) ++ (is.take i).filterMap (·.2)).length ∧ bddA (H.length + vis.length) vis = true ∧
        (∀ t e, vis[t]? = some e → e ≠ .none → (∃ j, made[t]? = some (j, e) ∧ (mkOf M (k + i)).testBit j = true) ∨
          ∃ i' q', i' < i ∧ is[i']? = some q' ∧ q'.2 = some e ∧ t = (made.map (·.2) ++ (is.take i').filterMap (·.2)).length ∧ (mkOf M (k + i)).testBit (k + i') = true) ∧
        SegLaw P w0 U H.length ops o (foldTm tm0 (l.take i) (is.take i)) (H ++ vis) (H.length + (made.map (·.2) ++ (is.take i).filterMap (·.2)).length) q.1 q.2
  | [], k, tm, tm0, made, K, hd, h => ⟨[], rfl, ⟨tm, hd, by simpa using joinH_spec _ _ _ (outM_spec _ _ h)⟩, fun i o q h => by simp at h⟩
  | o :: l, k, tm, tm0, made, K, hd, h => by
    have h : segCons P w0 U T M ops H o (xSeg P w0 U T M ops H l) k tm made K := h
    unfold segCons at h
    obtain ⟨hbd, h⟩ := natL_spec _ _ _ (joinH_spec _ _ _ (visK_spec _ _ _ h))
    have h := natL_spec _ _ _ h
    obtain ⟨s, e, tm1, hK, hlaw, hd1⟩ := seg_law (K := fun tm' e => match e with
      | some e => appM made (k, e) fun made' => xSeg P w0 U T M ops H l (Nat.add k 1) tm' made' K
      | none => xSeg P w0 U T M ops H l (Nat.add k 1) tm' made K) hT hd h
    have hvl : (visL (mkOf M k) made).length = made.length := by simp [visL]
    have hK : xSeg P w0 U T M ops H l (k + 1) tm1 (made ++ (e.map fun e => (k, e)).toList) K := by
      cases e with
      | none => simpa using hK
      | some e => exact appM_spec _ _ _ hK
    obtain ⟨is, hlen, ⟨tm', hd', hK'⟩, hl⟩ := xSeg_spec hT l (k + 1) tm1 _ _ K hd1 hK
    have he : ∀ is : List (SV × Option HE), made.map (·.2) ++ ((s, e) :: is).filterMap (·.2) = (made ++ (e.map fun e => (k, e)).toList).map (·.2) ++ is.filterMap (·.2) := fun is => by cases e <;> simp
    refine ⟨(s, e) :: is, by simp [hlen], ⟨tm', hd', by rw [he]; exact hK'⟩, fun i o' q ho hq => ?_⟩
    cases i with
    | zero =>
      simp at ho hq
      subst ho; subst hq
      refine ⟨visL (mkOf M k) made, by simp [hvl], hbd, fun t e' ht hne => .inl ?_, ?_⟩
      · simp only [visL, List.getElem?_map] at ht
        obtain ⟨⟨j, e0⟩, h1, h2⟩ := Option.map_eq_some_iff.1 ht
        simp only at h2
        split at h2
        · rename_i hb
          subst h2
          exact ⟨j, h1, hb⟩
        · exact absurd h2.symm hne
      · simpa [foldTm, hvl] using hlaw
    | succ i =>
      obtain ⟨vis, h1, h2, h3, h4⟩ := hl i o' q (by simpa using ho) (by simpa using hq)
      have hki : k + 1 + i = k + (i + 1) := by omega
      rw [hki] at h3
      refine ⟨vis, by rw [h1, List.take_succ_cons, he], h2, fun t e' ht hne => ?_, ?_⟩
      · rcases h3 t e' ht hne with ⟨j, h5, h6⟩ | ⟨i', q', h5, h6, h7, h8, h9⟩
        · rw [List.getElem?_append] at h5
          split at h5
          · exact .inl ⟨j, h5, h6⟩
          · rename_i hlt
            cases e with
            | none => simp at h5
            | some e =>
              simp only [Option.map_some, Option.toList_some] at h5
              have h0 : t - made.length = 0 := by
                have := (List.getElem?_eq_some_iff.1 h5).1
                simp at this
                omega
              rw [h0] at h5
              simp at h5
              obtain ⟨rfl, rfl⟩ := h5
              exact .inr ⟨0, (s, some e), by omega, rfl, rfl, by simp; omega, h6⟩
        · refine .inr ⟨i' + 1, q', by omega, by simpa using h6, h7, by rw [h8, List.take_succ_cons, he], by rw [← hki, show k + (i' + 1) = k + 1 + i' by omega] at *; exact h9⟩
      · rw [List.take_succ_cons, List.take_succ_cons, he]
        exact h4
end

def On (listed : Array Bool) (i : Nat) : Prop := listed[i]? = some true
theorem ready_mem {ops : Array Oper} {listed : Array Bool} (hs : listed.size = ops.size) {i : Nat} : i ∈ Region.ready .any ops listed ↔ ∃ o, ops[i]? = some o ∧ ¬ On listed i ∧ ∀ m ∈ waitL o, On listed m := by
  have on : ∀ m, listed.getD m false = true ↔ On listed m := fun m => by
    unfold On
    rw [Array.getD_eq_getD_getElem?]
    cases h : listed[m]? <;> simp
  unfold Region.ready
  rw [List.mem_filter]
  simp only [List.mem_range, Bool.and_eq_true, Bool.not_eq_true']
  constructor
  · rintro ⟨hi, h1, h2⟩
    obtain ⟨o, ho⟩ : ∃ o, ops[i]? = some o := ⟨_, Array.getElem?_eq_getElem hi⟩
    refine ⟨o, ho, fun h => ?_, fun m hm => ?_⟩
    · unfold On at h
      rw [Array.getD_eq_getD_getElem?, h] at h1
      cases h1
    · rw [ho] at h2
      simp only [Option.map_some, Option.getD_some] at h2
      unfold waitL at hm
      obtain ⟨e, he, rfl⟩ := List.mem_map.1 hm
      obtain ⟨he1, he2⟩ := List.mem_filter.1 he
      have := Array.all_eq_true_iff_forall_mem.1 h2 e (Array.mem_toList_iff.1 he1)
      simp only [he2, Bool.not_true, Bool.false_or] at this
      exact (on _).1 this
  · rintro ⟨o, ho, h1, h2⟩
    have hi : i < ops.size := (Array.getElem?_eq_some_iff.1 ho).1
    refine ⟨hi, ?_, ?_⟩
    · rw [Array.getD_eq_getD_getElem?]
      have : i < listed.size := by omega
      have hg : listed[i]? = some listed[i] := Array.getElem?_eq_getElem this
      rw [hg]
      unfold On at h1
      rw [hg] at h1
      simpa using h1
    · rw [ho]
      simp only [Option.map_some, Option.getD_some]
      refine Array.all_eq_true_iff_forall_mem.2 fun e he => ?_
      cases hb : Region.binds .any e
      · rfl
      · simp only [Bool.not_true, Bool.false_or]
        exact (on _).2 (h2 _ (List.mem_map.2 ⟨e, List.mem_filter.2 ⟨Array.mem_toList_iff.2 he, hb⟩, rfl⟩))
theorem on_set {listed : Array Bool} {k : Nat} (hk : k < listed.size) (i : Nat) : On (listed.setIfInBounds k true) i ↔ On listed i ∨ i = k := by
  unfold On
  rw [Array.getElem?_setIfInBounds]
  split
  · rename_i h
    subst h
    simp [hk]
  · rename_i h
    constructor
    · exact .inl
    · rintro (h1 | h1)
      · exact h1
      · exact absurd h1.symm h
theorem cutB_spec {ops : Array Oper} {c : Nat} (h : cutB ops.size (masks ops.toList) c = true) {k : Nat} (hk : k < ops.size) (hc : c ≤ k) {i : Nat} (hi : i < c) : Sees ops.toList k i := by
  unfold cutB at h
  have := List.all_eq_true.1 h k (List.mem_range.2 hk)
  simp only [Bool.or_eq_true, Nat.blt_eq, beq_iff_eq] at this
  rcases this with h1 | h1
  · omega
  · refine masks_spec ?_
    have h2 : (Nat.land ((masks ops.toList).getD k 0) (2 ^ c - 1)).testBit i = true := by rw [h1, Nat.testBit_two_pow_sub_one]; simpa using hi
    rw [show Nat.land ((masks ops.toList).getD k 0) (2 ^ c - 1) = ((masks ops.toList).getD k 0) &&& (2 ^ c - 1) from rfl, Nat.testBit_and, Bool.and_eq_true] at h2
    exact h2.1
theorem waitB_spec {ops : Array Oper} (h : waitB ops = true) {k : Nat} {o : Oper} (ho : ops[k]? = some o) {m : Nat} (hm : m ∈ waitL o) : m < k := by
  unfold waitB at h
  have := List.all_eq_true.1 h k (List.mem_range.2 (Array.getElem?_eq_some_iff.1 ho).1)
  rw [ho] at this
  have := List.all_eq_true.1 this m hm
  simpa using this
theorem segB_spec {ops : Array Oper} {ms : List Nat} {b c : Nat} (h : segB ops ms b c = true) {j k : Nat} (hb : b ≤ j) (hjk : j < k) (hc : k < c) {oj ok : Oper} (hj : ops[j]? = some oj) (hk : ops[k]? = some ok) :
    (∀ d, oj.dst = some d → d ∈ ok.looksAt ops → (ms.getD k 0).testBit j = true) ∧ (∀ d, oj.dst = some d → ok.dst ≠ some d) ∧ (∀ d, ok.dst = some d → d ∈ oj.looksAt ops → (ms.getD k 0).testBit j = true) := by
  unfold segB at h
  have := List.all_eq_true.1 h k (List.mem_range.2 hc)
  simp only [Bool.or_eq_true, Nat.blt_eq] at this
  rcases this with h1 | h1
  · omega
  · have := List.all_eq_true.1 h1 j (List.mem_range.2 hjk)
    simp only [Bool.or_eq_true, Nat.blt_eq] at this
    rcases this with h2 | h2
    · omega
    · unfold pairB at h2
      rw [hj, hk] at h2
      simp only [Bool.and_eq_true] at h2
      refine ⟨fun d hd hl => ?_, fun d hd => ?_, fun d hd hl => ?_⟩
      · have h3 := h2.1
        rw [hd] at h3
        simp only [Bool.and_eq_true, Bool.or_eq_true, Bool.not_eq_true'] at h3
        rcases h3.1 with h4 | h4
        · have : (ok.looksAt ops).contains d = true := List.contains_iff_mem.2 hl
          rw [this] at h4; cases h4
        · exact h4
      · have h3 := h2.1
        rw [hd] at h3
        simp only [Bool.and_eq_true, bne_iff_ne, ne_eq] at h3
        exact h3.2
      · have h3 := h2.2
        rw [hd] at h3
        simp only [Bool.or_eq_true, Bool.not_eq_true'] at h3
        rcases h3 with h4 | h4
        · have : (oj.looksAt ops).contains d = true := List.contains_iff_mem.2 hl
          rw [this] at h4; cases h4
        · exact h4
theorem least_mem : ∀ (m : Nat) (l : List Nat), m ∈ l → ∃ i ∈ l, ∀ j ∈ l, i ≤ j := by
  intro m
  induction m using Nat.strongRecOn with
  | _ m ih =>
    intro l hm
    by_cases h : ∃ j ∈ l, j < m
    · obtain ⟨j, hj, hlt⟩ := h
      exact ih j hlt l hj
    · exact ⟨m, hm, fun j hj => by
        rcases Nat.lt_or_ge j m with h1 | h1
        · exact absurd ⟨j, hj, h1⟩ h
        · exact h1⟩
end Go.Proofs.Ytlphkjbadjdleaa
