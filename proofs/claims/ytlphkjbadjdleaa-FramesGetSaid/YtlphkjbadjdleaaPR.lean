/-
  A frame's bytes, and the frame of bytes. No program in sight, no condition. frames.ints, for each list of numbers that it is called with. No condition but the length. frames.within and frames.may. No condition but the length. No condition.
-/
import Derived.Test.YtlphkjbadjdleaaPO
import Derived.Test.YtlphkjbadjdleaaPQ
import Derived.Test.YtlphkjbadjdleaaP7
import Derived.Test.YtlphkjbadjdleaaP6
namespace Go.Proofs.Ytlphkjbadjdleaa
/-- The numbers of a frame: Epoch, Client, Seq, Try, Class, Deadline, Reason, Index, Grant, Have. -/
def getN (f : FrM) : Nat → Int
  | 0 => f.epoch
  | 1 => f.client
  | 2 => f.seq
  | 3 => f.try'
  | 4 => f.cls
  | 5 => f.deadline
  | 6 => f.reason
  | 7 => f.index
  | 8 => f.grant
  | _ => f.have'
def setN (f : FrM) (j : Nat) (n : Int) : FrM := match j with
  | 0 => { f with epoch := n }
  | 1 => { f with client := n }
  | 2 => { f with seq := n }
  | 3 => { f with try' := n }
  | 4 => { f with cls := n }
  | 5 => { f with deadline := n }
  | 6 => { f with reason := n }
  | 7 => { f with index := n }
  | 8 => { f with grant := n }
  | _ => { f with have' := n }
/-- Which ones a kind has. -/
def plN (k : Int) : List Nat :=
  if k = 1 then [0, 1, 2, 3, 4, 5] else if k = 2 then [1, 2, 3] else if k = 3 then [0, 1, 2, 3, 6] else if k = 4 ∨ k = 12 then [0] else if k = 5 then [0, 7, 8, 9]
  else if k = 6 ∨ k = 9 ∨ k = 10 ∨ k = 11 then [0, 7] else []
abbrev inN (n : Int) : Prop := 0 ≤ n ∧ n ≤ 1099511627776
/-- May what stands behind the numbers be? -/
def tailOk (f : FrM) : Prop :=
  if f.kind = 1 then chkO f.op = 0
  else if f.kind = 2 then (1 ≤ f.res.code ∧ f.res.code ≤ 3) ∧ f.res.value.length ≤ 64 ∧ inN f.res.version ∧ inN f.res.pos
  else if f.kind = 4 then (inN f.ent.index ∧ inN f.ent.client ∧ inN f.ent.seq) ∧ chkO f.ent.op = 0
  else if f.kind = 8 then okCh f.ch = true
  else 1 ≤ f.kind ∧ f.kind ≤ 12
def numOk (f : FrM) : Prop := ∀ j ∈ plN f.kind, inN (getN f j)
def mayF (f : FrM) : Prop := numOk f ∧ tailOk f
instance (f : FrM) : Decidable (tailOk f) := by unfold tailOk; infer_instance
instance (f : FrM) : Decidable (mayF f) := by unfold mayF numOk; infer_instance
def numB (f : FrM) : List Nat → List UInt8
  | [] => []
  | j :: r => intB (getN f j) ++ numB f r
def tailB (f : FrM) : List UInt8 :=
  if f.kind = 1 then putB f.op
  else if f.kind = 2 then intB f.res.code ++ (textB f.res.value ++ (intB f.res.version ++ intB f.res.pos))
  else if f.kind = 4 then intB f.ent.index ++ (intB f.ent.client ++ (intB f.ent.seq ++ putB f.ent.op))
  else if f.kind = 8 then (putM f.ch).1
  else []
def bytF (f : FrM) : List UInt8 := intB f.kind ++ (numB f (plN f.kind) ++ tailB f)
/-- What is put of a frame. -/
def putF (f : FrM) : List UInt8 × Int := if ¬ mayF f then ([], 2) else if 512 < (bytF f).length then ([], 3) else (bytF f, 0)
def frK (k : Int) : FrM := { frZ with kind := k }
/-- A frame with what its kind has alone. -/
def cpN (f : FrM) : List Nat → FrM → FrM
  | [], g => g
  | j :: r, g => cpN f r (setN g j (getN f j))
def cpT (f g : FrM) : FrM :=
  if f.kind = 1 then { g with op := f.op }
  else if f.kind = 2 then { g with res := f.res }
  else if f.kind = 4 then { g with ent := f.ent }
  else if f.kind = 8 then { g with ch := f.ch }
  else g
def plainF (f : FrM) : FrM := cpT f (cpN f (plN f.kind) (frK f.kind))
/-- Numbers that stand ahead of bytes. -/
def numsP : FrM → List Nat → List UInt8 → Option (FrM × List UInt8)
  | f, [], s => some (f, s)
  | f, j :: r, s => match unintB s with
    | none => none
    | some (n, t) => numsP (setN f j n) r t
def tailP (f : FrM) (s : List UInt8) : Option FrM :=
  if f.kind = 1 then (getB s).map fun o => { f with op := o }
  else if f.kind = 2 then match unintB s with
    | none => none
    | some (a, s) => match cutB s with
      | none => none
      | some (v, s) => match unintB s with
        | none => none
        | some (b, s) => match unintB s with
          | none => none
          | some (c, s) => if s = [] then some { f with res := ⟨a, v, b, c⟩ } else none
  else if f.kind = 4 then match unintB s with
    | none => none
    | some (a, s) => match unintB s with
      | none => none
      | some (b, s) => match unintB s with
        | none => none
        | some (c, s) => (getB s).map fun o => { f with ent := ⟨a, b, c, o⟩ }
  else if f.kind = 8 then (if (getM s).2 = 0 then some { f with ch := (getM s).1 } else none)
  else if s = [] then some f else none
/-- The frame of bytes. -/
def getF' (s : List UInt8) : Option FrM := match unintB s with
  | none => none
  | some (k, s1) => match numsP (frK k) (plN k) s1 with
    | none => none
    | some (f, s2) => match tailP f s2 with
      | none => none
      | some f => if mayF f then some f else none
def getFr (s : List UInt8) : Option FrM := if 512 < s.length then none else getF' s
theorem kind_cases {k : Int} (h : 1 ≤ k ∧ k ≤ 12) : k = 1 ∨ k = 2 ∨ k = 3 ∨ k = 4 ∨ k = 5 ∨ k = 6 ∨ k = 7 ∨ k = 8 ∨ k = 9 ∨ k = 10 ∨ k = 11 ∨ k = 12 := by omega
theorem tailOk_kind {f : FrM} (h : tailOk f) : 1 ≤ f.kind ∧ f.kind ≤ 12 := by
  unfold tailOk at h
  split at h
  · omega
  · split at h
    · omega
    · split at h
      · omega
      · split at h
        · omega
        · exact h
theorem setN_kind (f : FrM) (j : Nat) (n : Int) : (setN f j n).kind = f.kind := by unfold setN; split <;> rfl
theorem cpN_kind (f : FrM) : ∀ (l : List Nat) (g : FrM), (cpN f l g).kind = g.kind
  | [], _ => rfl
  | j :: r, g => by rw [cpN, cpN_kind f r, setN_kind]
theorem plain_kind (f : FrM) : (plainF f).kind = f.kind := by
  unfold plainF cpT
  split <;> (try split) <;> (try split) <;> (try split) <;> first | rfl | exact cpN_kind _ _ _
/-- Numbers are got as they were put. -/
theorem numsP_put (f : FrM) : ∀ (l : List Nat) (g : FrM) (t : List UInt8), (∀ j ∈ l, inN (getN f j)) → numsP g l (numB f l ++ t) = some (cpN f l g, t)
  | [], g, t, _ => rfl
  | j :: r, g, t, h => by
    have hj := h j (List.mem_cons_self ..)
    rw [numB, List.append_assoc, numsP, unintB_int _ (by omega) hj.2]
    exact numsP_put f r _ t fun x hx => h x (List.mem_cons_of_mem _ hx)
theorem getM_put {c : ChM} (h : okCh c = true) : (getM (putM c).1) = (c, 0) := get_put h
theorem tailP_put (f g : FrM) (h : tailOk f) (hk : g.kind = f.kind) : tailP g (tailB f) = some (cpT f g) := by
  unfold tailOk at h
  unfold tailP tailB cpT
  rw [hk]
  split
  · rename_i h1
    rw [if_pos h1] at h
    rw [getB_put _ h]; rfl
  · rename_i h1
    rw [if_neg h1] at h
    split
    · rename_i h2
      rw [if_pos h2] at h
      obtain ⟨h3, h4, h5, h6⟩ := h
      have e := unintB_int f.res.pos (by omega) h6.2 []
      rw [List.append_nil] at e
      rw [unintB_int _ (by omega) (by omega)]
      simp only
      rw [cutB_text _ _ (by omega)]
      simp only
      rw [unintB_int _ (by omega) h5.2]
      simp only
      rw [e]
      simp
    · rename_i h2
      rw [if_neg h2] at h
      split
      · rename_i h3
        rw [if_pos h3] at h
        obtain ⟨⟨h4, h5, h6⟩, h7⟩ := h
        rw [unintB_int _ (by omega) h4.2]
        simp only
        rw [unintB_int _ (by omega) h5.2]
        simp only
        rw [unintB_int _ (by omega) h6.2]
        simp only
        rw [getB_put _ h7]
        rfl
      · rename_i h3
        rw [if_neg h3] at h
        split
        · rename_i h4
          rw [if_pos h4] at h
          rw [getM_put h]
          rfl
        · rfl
theorem getN_set : ∀ (f : FrM) (i j : Nat) (n : Int), i < 10 → j < 10 → getN (setN f j n) i = if i = j then n else getN f i := fun f i j n hi hj => by
  rcases j with _ | _ | _ | _ | _ | _ | _ | _ | _ | _ | j <;> rcases i with _ | _ | _ | _ | _ | _ | _ | _ | _ | _ | i <;> first | rfl | omega
theorem plN_lt (k : Int) : ∀ j ∈ plN k, j < 10 := by
  intro j
  unfold plN
  repeat' split
  all_goals simp
  all_goals omega
theorem cpN_get (f : FrM) : ∀ (l : List Nat) (g : FrM), (∀ j ∈ l, j < 10) → ∀ i, i < 10 → getN (cpN f l g) i = if i ∈ l then getN f i else getN g i
  | [], g, _, i, _ => by simp [cpN]
  | j :: r, g, h, i, hi => by
    rw [cpN, cpN_get f r _ (fun x hx => h x (List.mem_cons_of_mem _ hx)) i hi, getN_set _ _ _ _ hi (h j (List.mem_cons_self ..))]
    by_cases h1 : i ∈ r
    · simp [h1]
    · by_cases h2 : i = j
      · simp [h2]
      · simp [h1, h2]
theorem cpT_get (f g : FrM) (i : Nat) : getN (cpT f g) i = getN g i := by
  unfold cpT
  split
  · unfold getN; split <;> rfl
  · split
    · unfold getN; split <;> rfl
    · split
      · unfold getN; split <;> rfl
      · split
        · unfold getN; split <;> rfl
        · rfl
theorem plain_get (f : FrM) {i : Nat} (h : i ∈ plN f.kind) : getN (plainF f) i = getN f i := by
  unfold plainF
  rw [cpT_get, cpN_get f _ _ (plN_lt _) i (plN_lt _ i h), if_pos h]
theorem plain_op (f : FrM) (h : f.kind = 1) : (plainF f).op = f.op := by unfold plainF cpT; rw [if_pos h]
theorem plain_res (f : FrM) (h : f.kind = 2) : (plainF f).res = f.res := by unfold plainF cpT; rw [if_neg (by omega), if_pos h]
theorem plain_ent (f : FrM) (h : f.kind = 4) : (plainF f).ent = f.ent := by unfold plainF cpT; rw [if_neg (by omega), if_neg (by omega), if_pos h]
theorem plain_ch (f : FrM) (h : f.kind = 8) : (plainF f).ch = f.ch := by unfold plainF cpT; rw [if_neg (by omega), if_neg (by omega), if_neg (by omega), if_pos h]
theorem tailOk_plain (f : FrM) : tailOk (plainF f) ↔ tailOk f := by
  unfold tailOk
  rw [plain_kind]
  split
  · rw [plain_op f (by assumption)]
  · split
    · rw [plain_res f (by assumption)]
    · split
      · rw [plain_ent f (by assumption)]
      · split
        · rw [plain_ch f (by assumption)]
        · rfl
theorem mayF_plain (f : FrM) : mayF (plainF f) ↔ mayF f := by
  unfold mayF numOk
  rw [plain_kind, tailOk_plain]
  refine and_congr ⟨fun h j hj => ?_, fun h j hj => ?_⟩ Iff.rfl
  · rw [← plain_get f hj]; exact h j hj
  · rw [plain_get f hj]; exact h j hj
theorem cpN_eq (f f' : FrM) : ∀ (l : List Nat) (g : FrM), (∀ j ∈ l, getN f j = getN f' j) → cpN f l g = cpN f' l g
  | [], _, _ => rfl
  | j :: r, g, h => by rw [cpN, cpN, h j (List.mem_cons_self ..)]; exact cpN_eq f f' r _ fun x hx => h x (List.mem_cons_of_mem _ hx)
/-- What is put is got, as Plain. -/
theorem getF_put (f : FrM) (h : mayF f) : getF' (bytF f) = some (plainF f) := by
  have hk := tailOk_kind h.2
  unfold getF' bytF
  rw [unintB_int _ (by omega) (by omega)]
  simp only
  rw [numsP_put f _ _ _ h.1]
  simp only
  rw [tailP_put f (cpN f (plN f.kind) (frK f.kind)) h.2 (cpN_kind _ _ _)]
  simp only
  exact if_pos ((mayF_plain f).2 h)
theorem numsP_form : ∀ (l : List Nat) (g f : FrM) (s t : List UInt8), numsP g l s = some (f, t) → (∀ j ∈ l, j < 10) → l.Nodup → f = cpN f l g ∧ s = numB f l ++ t ∧ (∀ j, j < 10 → j ∉ l → getN f j = getN g j)
  | [], g, f, s, t, h, _, _ => by
    simp only [numsP, Option.some.injEq, Prod.mk.injEq] at h
    obtain ⟨rfl, rfl⟩ := h
    exact ⟨rfl, rfl, fun _ _ _ => rfl⟩
  | j :: r, g, f, s, t, h, hl, hn => by
    unfold numsP at h
    rcases hu : unintB s with _ | ⟨n, u⟩
    · rw [hu] at h; cases h
    · rw [hu] at h
      simp only at h
      have hn' := List.nodup_cons.1 hn
      have hj := hl j (List.mem_cons_self ..)
      obtain ⟨h1, h2, h3⟩ := numsP_form r (setN g j n) f u t h (fun x hx => hl x (List.mem_cons_of_mem _ hx)) hn'.2
      have hv : getN f j = n := by rw [h3 j hj hn'.1, getN_set _ _ _ _ hj hj, if_pos rfl]
      refine ⟨?_, ?_, fun i hi hni => ?_⟩
      · rw [cpN, hv]; exact h1
      · rw [numB, hv, List.append_assoc, ← h2, (unintB_form hu).1]
      · rw [h3 i hi (fun hx => hni (List.mem_cons_of_mem _ hx)), getN_set _ _ _ _ hi hj, if_neg (fun e => hni (by rw [e]; exact List.mem_cons_self ..))]
theorem plN_nodup (k : Int) : (plN k).Nodup := by
  unfold plN
  repeat' split
  all_goals decide
theorem tailP_form {f g : FrM} {s : List UInt8} (h : tailP g s = some f) : f.kind = g.kind ∧ (∀ j, getN f j = getN g j) ∧ f = cpT f g ∧ tailB f = s := by
  unfold tailP at h
  split at h
  · rename_i hk
    rcases ho : getB s with _ | o
    · rw [ho] at h; cases h
    · rw [ho] at h
      simp only [Option.map_some, Option.some.injEq] at h
      subst h
      refine ⟨rfl, fun j => by unfold getN; split <;> rfl, ?_, ?_⟩
      · unfold cpT; rw [if_pos hk]
      · unfold tailB; rw [if_pos hk]; exact (getB_form ho).2
  · rename_i hk1
    split at h
    · rename_i hk
      rcases h1 : unintB s with _ | ⟨a, s1⟩
      · rw [h1] at h; cases h
      rw [h1] at h; simp only at h
      rcases h2 : cutB s1 with _ | ⟨v, s2⟩
      · rw [h2] at h; cases h
      rw [h2] at h; simp only at h
      rcases h3 : unintB s2 with _ | ⟨b, s3⟩
      · rw [h3] at h; cases h
      rw [h3] at h; simp only at h
      rcases h4 : unintB s3 with _ | ⟨c, s4⟩
      · rw [h4] at h; cases h
      rw [h4] at h; simp only at h
      split at h
      · rename_i h5
        subst h5
        cases h
        have f4 := (unintB_form h4).1
        rw [List.append_nil] at f4
        refine ⟨rfl, fun j => by unfold getN; split <;> rfl, ?_, ?_⟩
        · unfold cpT; rw [if_neg hk1, if_pos hk]
        · unfold tailB; rw [if_neg hk1, if_pos hk]
          simp only
          rw [f4, (unintB_form h3).1, cutB_form h2, (unintB_form h1).1]
      · cases h
    · rename_i hk2
      split at h
      · rename_i hk
        rcases h1 : unintB s with _ | ⟨a, s1⟩
        · rw [h1] at h; cases h
        rw [h1] at h; simp only at h
        rcases h2 : unintB s1 with _ | ⟨b, s2⟩
        · rw [h2] at h; cases h
        rw [h2] at h; simp only at h
        rcases h3 : unintB s2 with _ | ⟨c, s3⟩
        · rw [h3] at h; cases h
        rw [h3] at h; simp only at h
        rcases ho : getB s3 with _ | o
        · rw [ho] at h; cases h
        · rw [ho] at h
          simp only [Option.map_some, Option.some.injEq] at h
          subst h
          refine ⟨rfl, fun j => by unfold getN; split <;> rfl, ?_, ?_⟩
          · unfold cpT; rw [if_neg hk1, if_neg hk2, if_pos hk]
          · unfold tailB; rw [if_neg hk1, if_neg hk2, if_pos hk]
            simp only
            rw [(getB_form ho).2, (unintB_form h3).1, (unintB_form h2).1, (unintB_form h1).1]
      · rename_i hk4
        split at h
        · rename_i hk
          split at h
          · rename_i hm
            cases h
            rcases getM_form s with h' | ⟨c, h', _, hp⟩
            · rw [h'] at hm; exact absurd hm (by decide)
            · refine ⟨rfl, fun j => by unfold getN; split <;> rfl, ?_, ?_⟩
              · unfold cpT; rw [if_neg hk1, if_neg hk2, if_neg hk4, if_pos hk]
              · unfold tailB; rw [if_neg hk1, if_neg hk2, if_neg hk4, if_pos hk]
                simp only
                rw [h']; exact hp
          · cases h
        · rename_i hk8
          split at h
          · rename_i h5
            cases h
            refine ⟨rfl, fun _ => rfl, ?_, ?_⟩
            · unfold cpT; rw [if_neg hk1, if_neg hk2, if_neg hk4, if_neg hk8]
            · unfold tailB; rw [if_neg hk1, if_neg hk2, if_neg hk4, if_neg hk8]; exact h5.symm
          · cases h
theorem numB_eq (f f' : FrM) : ∀ (l : List Nat), (∀ j, getN f j = getN f' j) → numB f l = numB f' l
  | [], _ => rfl
  | j :: r, h => by rw [numB, numB, h j, numB_eq f f' r h]
theorem numsP_kind : ∀ (l : List Nat) (g f : FrM) (s t : List UInt8), numsP g l s = some (f, t) → f.kind = g.kind
  | [], g, f, s, t, h => by
    simp only [numsP, Option.some.injEq, Prod.mk.injEq] at h
    rw [h.1]
  | j :: r, g, f, s, t, h => by
    unfold numsP at h
    rcases hu : unintB s with _ | ⟨n, u⟩
    · rw [hu] at h; cases h
    · rw [hu] at h
      rw [numsP_kind r _ f u t h, setN_kind]
/-- What is got of bytes is put as these, and is Plain. -/
theorem getF_form {s : List UInt8} {f : FrM} (h : getF' s = some f) : mayF f ∧ bytF f = s ∧ plainF f = f := by
  unfold getF' at h
  rcases h1 : unintB s with _ | ⟨k, s1⟩
  · rw [h1] at h; cases h
  rw [h1] at h; simp only at h
  rcases h2 : numsP (frK k) (plN k) s1 with _ | ⟨g, s2⟩
  · rw [h2] at h; cases h
  rw [h2] at h; simp only at h
  rcases h3 : tailP g s2 with _ | f'
  · rw [h3] at h; cases h
  rw [h3] at h; simp only at h
  split at h
  · rename_i hm
    cases h
    obtain ⟨e1, e2, e3, e4⟩ := tailP_form h3
    have hgk : g.kind = k := numsP_kind _ _ _ _ _ h2
    obtain ⟨n1, n2, n3⟩ := numsP_form _ _ _ _ _ h2 (plN_lt _) (plN_nodup _)
    have hfk : f.kind = k := e1.trans hgk
    refine ⟨hm, ?_, ?_⟩
    · unfold bytF
      rw [hfk, e4, numB_eq f g _ e2, ← n2, (unintB_form h1).1]
    · unfold plainF
      rw [hfk, cpN_eq f g _ _ (fun j _ => e2 j), ← n1]
      exact e3.symm
  · cases h
end Go.Proofs.Ytlphkjbadjdleaa
namespace Go.Proofs.Ytlphkjbadjdleaa
open Go.RowKit
/-- What is left to read behind so many numbers, and whether all was well. -/
def stR (p : List UInt8 × Bool) : Nat → List UInt8 × Bool
  | 0 => p
  | k + 1 => rdS (stR p k)
theorem stR_le (p : List UInt8 × Bool) (k : Nat) : (stR p k).1.length ≤ p.1.length := by
  induction k with
  | zero => exact Nat.le_refl _
  | succ k ih => exact Nat.le_trans (rdS_le _) ih
/-- The j'th number behind i rounds. -/
def vAt (p : List UInt8 × Bool) (j i : Nat) : Int := if j < i then rdN (stR p j) else 0
theorem vAt_new {p : List UInt8 × Bool} {j : Nat} {n : Int} (h : rdN (stR p j) = n) : SV.v (.int .i64 n) = SV.v (.int .i64 (vAt p j (j + 1))) := by
  unfold vAt; rw [if_pos (Nat.lt_succ_self _), h]
theorem vAt_nil {p : List UInt8 × Bool} {j : Nat} (h : rdN (stR p j) = 0) : SV.v (.int .i64 (vAt p j j)) = SV.v (.int .i64 (vAt p j (j + 1))) := by
  unfold vAt; rw [if_pos (Nat.lt_succ_self _), if_neg (Nat.lt_irrefl _), h]
abbrev nilS0 : SV := .v (.slice none 0 0)
abbrev frE (f : FrM) (q : SV) : HE := .blk 94 (frL f q)
set_option maxRecDepth 100000 in
set_option maxHeartbeats 4000000 in
theorem ints_K (f : FrM) (s : List UInt8) (hs : s.length ≤ 1000000) :
    Spec Try.prog 67 [.v (S s), .s 1 0 1 1] [frE { f with kind := 0 } nilS0, .blk 129 [.p 0 0]]
      fun r H1 => r = .tup [.v (S (stR (s, true) 1).1), .v (.bool (stR (s, true) 1).2)] ∧ H1 = [frE { f with kind := rdN (stR (s, true) 0) } nilS0, .blk 129 [.p 0 0]] := by
  refine spec_x Try.func67 rfl 2 rfl rfl fun w0 U => ?_
  repeat' ((conv => whnf); first | refine CutN.plain ?_)
  all_goals (conv => whnf)
  refine loop_up 12 (fun i : Nat => i ≤ 1) (fun i => 1 - i) (fun i => [(4, .v (S (stR (s, true) i).1)), (5, .v (.bool (stR (s, true) i).2)), (7, .junk), (11, .v (.int .i64 i))]) (fun i => [(0, .cells [(0, .v (.int .i64 (vAt (s, true) 0 i)))])]) (fun _ => []) 0 (Nat.zero_le _) (by
    (conv => whnf)
    refine ⟨[some 0, some 1], by decide, ?_, ?_⟩
    all_goals repeat' (first | exact leT_junk rfl | refine And.intro ?_ ?_ | exact trivial | exact .inl ⟨rfl, rfl⟩ | rfl | exact .inr ⟨_, rfl, rfl, rfl⟩ | exact ⟨_, rfl, trivial⟩ | exact ⟨_, rfl, rfl⟩ | exact ⟨_, rfl, ⟨rfl, rfl, rfl⟩, fun _ _ _ _ => rfl⟩ | exact ⟨_, rfl, ⟨rfl, rfl, .inl rfl⟩, rfl⟩ | exact ⟨_, rfl, ⟨rfl, rfl, .inr rfl⟩, rfl⟩ | exact ⟨_, rfl, ⟨rfl, rfl, rfl, rfl, rfl⟩, rfl⟩ | exact ⟨_, rfl, ⟨rfl, rfl⟩, fun _ => Iff.rfl⟩ | refine ⟨_, rfl, rfl, ?_⟩)) (fun i hi => ?_)
  have hl := stR_le (s, true) i
  rcases hq : stR (s, true) i with ⟨q1, ok⟩
  rw [hq] at hl
  simp only at hl
  have hu := fun w => unint_v q1 w (by omega)
  have hst : stR (s, true) (i + 1) = rdS (q1, ok) := by rw [← hq]; rfl
  have hv : rdN (stR (s, true) i) = rdN (q1, ok) := by rw [hq]
  obtain ⟨k, hk⟩ : ∃ k, k = i + 1 := ⟨_, rfl⟩
  by_cases hin : i < 1
  · cases ok
    all_goals
      obtain rfl : i = 0 := by omega
      all_goals
        repeat' ((conv => whnf); first | refine CutN.plain ?_ | refine Need.go rfl ?_ | with_reducible refine Br.yes rfl ?_ | with_reducible refine Br.no rfl ?_ | refine Ar.i64 (by omega) (by omega) ?_ | (refine call_mem (f := 91) (args := [.v (S q1)]) (V := .tuple #[.int .i64 (uN (unintB q1)), S (rR (unintB q1)), .bool (unintB q1).isSome]) ?_ ?_; exact fun ρ w h => hu w) | refine Need.go (by first | omega | decide | (simp <;> omega) | fail) ?_)
        all_goals (conv => whnf)
        all_goals
          refine ⟨k, by omega, by omega, ?_⟩
          subst hk
          rw [hst]
          (conv => whnf)
          refine ⟨[some 0, some 1], by decide, ?_, ?_⟩
          all_goals repeat' (first | exact vAt_new hv | exact vAt_nil hv | exact leT_junk rfl | refine And.intro ?_ ?_ | exact trivial | exact .inl ⟨rfl, rfl⟩ | rfl | exact .inr ⟨_, rfl, rfl, rfl⟩ | exact ⟨_, rfl, trivial⟩ | exact ⟨_, rfl, rfl⟩ | exact ⟨_, rfl, ⟨rfl, rfl, rfl⟩, fun _ _ _ _ => rfl⟩ | exact ⟨_, rfl, ⟨rfl, rfl, .inl rfl⟩, rfl⟩ | exact ⟨_, rfl, ⟨rfl, rfl, .inr rfl⟩, rfl⟩ | exact ⟨_, rfl, ⟨rfl, rfl, rfl, rfl, rfl⟩, rfl⟩ | exact ⟨_, rfl, ⟨rfl, rfl⟩, fun _ => Iff.rfl⟩ | refine ⟨_, rfl, rfl, ?_⟩)
  · obtain rfl : i = 1 := by omega
    repeat' ((conv => whnf); first | refine CutN.plain ?_ | refine Need.go rfl ?_ | with_reducible refine Br.no rfl ?_)
    all_goals (conv => whnf)
    rw [hq]
    refine ⟨_, _, ⟨rfl, rfl⟩, by simp, trivial, ⟨[some 0, some 1], ⟨by decide, rfl⟩, ?_, ?_⟩⟩
    all_goals repeat' (first | exact leT_junk rfl | refine And.intro ?_ ?_ | exact trivial | exact .inl ⟨rfl, rfl⟩ | rfl | exact .inr ⟨_, rfl, rfl, rfl⟩ | exact ⟨_, rfl, trivial⟩ | exact ⟨_, rfl, rfl⟩ | exact ⟨_, rfl, ⟨rfl, rfl, rfl⟩, fun _ _ _ _ => rfl⟩ | exact ⟨_, rfl, ⟨rfl, rfl, .inl rfl⟩, rfl⟩ | exact ⟨_, rfl, ⟨rfl, rfl, .inr rfl⟩, rfl⟩ | exact ⟨_, rfl, ⟨rfl, rfl, rfl, rfl, rfl⟩, rfl⟩ | exact ⟨_, rfl, ⟨rfl, rfl⟩, fun _ => Iff.rfl⟩ | refine ⟨_, rfl, rfl, ?_⟩)
set_option maxRecDepth 100000 in
set_option maxHeartbeats 4000000 in
theorem ints_1 (f : FrM) (s : List UInt8) (hs : s.length ≤ 1000000) :
    Spec Try.prog 67 [.v (S s), .s 1 0 6 6] [frE { f with epoch := 0, client := 0, seq := 0, try' := 0, cls := 0, deadline := 0 } nilS0, .blk 129 [.p 0 1, .p 0 2, .p 0 3, .p 0 4, .p 0 5, .p 0 6]]
      fun r H1 => r = .tup [.v (S (stR (s, true) 6).1), .v (.bool (stR (s, true) 6).2)] ∧ H1 = [frE { f with epoch := rdN (stR (s, true) 0), client := rdN (stR (s, true) 1), seq := rdN (stR (s, true) 2), try' := rdN (stR (s, true) 3), cls := rdN (stR (s, true) 4), deadline := rdN (stR (s, true) 5) } nilS0, .blk 129 [.p 0 1, .p 0 2, .p 0 3, .p 0 4, .p 0 5, .p 0 6]] := by
  refine spec_x Try.func67 rfl 2 rfl rfl fun w0 U => ?_
  repeat' ((conv => whnf); first | refine CutN.plain ?_)
  all_goals (conv => whnf)
  refine loop_up 12 (fun i : Nat => i ≤ 6) (fun i => 6 - i) (fun i => [(4, .v (S (stR (s, true) i).1)), (5, .v (.bool (stR (s, true) i).2)), (7, .junk), (11, .v (.int .i64 i))]) (fun i => [(0, .cells [(1, .v (.int .i64 (vAt (s, true) 0 i))), (2, .v (.int .i64 (vAt (s, true) 1 i))), (3, .v (.int .i64 (vAt (s, true) 2 i))), (4, .v (.int .i64 (vAt (s, true) 3 i))), (5, .v (.int .i64 (vAt (s, true) 4 i))), (6, .v (.int .i64 (vAt (s, true) 5 i)))])]) (fun _ => []) 0 (Nat.zero_le _) (by
    (conv => whnf)
    refine ⟨[some 0, some 1], by decide, ?_, ?_⟩
    all_goals repeat' (first | exact leT_junk rfl | refine And.intro ?_ ?_ | exact trivial | exact .inl ⟨rfl, rfl⟩ | rfl | exact .inr ⟨_, rfl, rfl, rfl⟩ | exact ⟨_, rfl, trivial⟩ | exact ⟨_, rfl, rfl⟩ | exact ⟨_, rfl, ⟨rfl, rfl, rfl⟩, fun _ _ _ _ => rfl⟩ | exact ⟨_, rfl, ⟨rfl, rfl, .inl rfl⟩, rfl⟩ | exact ⟨_, rfl, ⟨rfl, rfl, .inr rfl⟩, rfl⟩ | exact ⟨_, rfl, ⟨rfl, rfl, rfl, rfl, rfl⟩, rfl⟩ | exact ⟨_, rfl, ⟨rfl, rfl⟩, fun _ => Iff.rfl⟩ | refine ⟨_, rfl, rfl, ?_⟩)) (fun i hi => ?_)
  have hl := stR_le (s, true) i
  rcases hq : stR (s, true) i with ⟨q1, ok⟩
  rw [hq] at hl
  simp only at hl
  have hu := fun w => unint_v q1 w (by omega)
  have hst : stR (s, true) (i + 1) = rdS (q1, ok) := by rw [← hq]; rfl
  have hv : rdN (stR (s, true) i) = rdN (q1, ok) := by rw [hq]
  obtain ⟨k, hk⟩ : ∃ k, k = i + 1 := ⟨_, rfl⟩
  by_cases hin : i < 6
  · cases ok
    all_goals
      obtain rfl | rfl | rfl | rfl | rfl | rfl : i = 0 ∨ i = 1 ∨ i = 2 ∨ i = 3 ∨ i = 4 ∨ i = 5 := by omega
      all_goals
        repeat' ((conv => whnf); first | refine CutN.plain ?_ | refine Need.go rfl ?_ | with_reducible refine Br.yes rfl ?_ | with_reducible refine Br.no rfl ?_ | refine Ar.i64 (by omega) (by omega) ?_ | (refine call_mem (f := 91) (args := [.v (S q1)]) (V := .tuple #[.int .i64 (uN (unintB q1)), S (rR (unintB q1)), .bool (unintB q1).isSome]) ?_ ?_; exact fun ρ w h => hu w) | refine Need.go (by first | omega | decide | (simp <;> omega) | fail) ?_)
        all_goals (conv => whnf)
        all_goals
          refine ⟨k, by omega, by omega, ?_⟩
          subst hk
          rw [hst]
          (conv => whnf)
          refine ⟨[some 0, some 1], by decide, ?_, ?_⟩
          all_goals repeat' (first | exact vAt_new hv | exact vAt_nil hv | exact leT_junk rfl | refine And.intro ?_ ?_ | exact trivial | exact .inl ⟨rfl, rfl⟩ | rfl | exact .inr ⟨_, rfl, rfl, rfl⟩ | exact ⟨_, rfl, trivial⟩ | exact ⟨_, rfl, rfl⟩ | exact ⟨_, rfl, ⟨rfl, rfl, rfl⟩, fun _ _ _ _ => rfl⟩ | exact ⟨_, rfl, ⟨rfl, rfl, .inl rfl⟩, rfl⟩ | exact ⟨_, rfl, ⟨rfl, rfl, .inr rfl⟩, rfl⟩ | exact ⟨_, rfl, ⟨rfl, rfl, rfl, rfl, rfl⟩, rfl⟩ | exact ⟨_, rfl, ⟨rfl, rfl⟩, fun _ => Iff.rfl⟩ | refine ⟨_, rfl, rfl, ?_⟩)
  · obtain rfl : i = 6 := by omega
    repeat' ((conv => whnf); first | refine CutN.plain ?_ | refine Need.go rfl ?_ | with_reducible refine Br.no rfl ?_)
    all_goals (conv => whnf)
    rw [hq]
    refine ⟨_, _, ⟨rfl, rfl⟩, by simp, trivial, ⟨[some 0, some 1], ⟨by decide, rfl⟩, ?_, ?_⟩⟩
    all_goals repeat' (first | exact leT_junk rfl | refine And.intro ?_ ?_ | exact trivial | exact .inl ⟨rfl, rfl⟩ | rfl | exact .inr ⟨_, rfl, rfl, rfl⟩ | exact ⟨_, rfl, trivial⟩ | exact ⟨_, rfl, rfl⟩ | exact ⟨_, rfl, ⟨rfl, rfl, rfl⟩, fun _ _ _ _ => rfl⟩ | exact ⟨_, rfl, ⟨rfl, rfl, .inl rfl⟩, rfl⟩ | exact ⟨_, rfl, ⟨rfl, rfl, .inr rfl⟩, rfl⟩ | exact ⟨_, rfl, ⟨rfl, rfl, rfl, rfl, rfl⟩, rfl⟩ | exact ⟨_, rfl, ⟨rfl, rfl⟩, fun _ => Iff.rfl⟩ | refine ⟨_, rfl, rfl, ?_⟩)
set_option maxRecDepth 100000 in
set_option maxHeartbeats 4000000 in
theorem ints_2 (f : FrM) (s : List UInt8) (hs : s.length ≤ 1000000) :
    Spec Try.prog 67 [.v (S s), .s 1 0 3 3] [frE { f with client := 0, seq := 0, try' := 0 } nilS0, .blk 129 [.p 0 2, .p 0 3, .p 0 4]]
      fun r H1 => r = .tup [.v (S (stR (s, true) 3).1), .v (.bool (stR (s, true) 3).2)] ∧ H1 = [frE { f with client := rdN (stR (s, true) 0), seq := rdN (stR (s, true) 1), try' := rdN (stR (s, true) 2) } nilS0, .blk 129 [.p 0 2, .p 0 3, .p 0 4]] := by
  refine spec_x Try.func67 rfl 2 rfl rfl fun w0 U => ?_
  repeat' ((conv => whnf); first | refine CutN.plain ?_)
  all_goals (conv => whnf)
  refine loop_up 12 (fun i : Nat => i ≤ 3) (fun i => 3 - i) (fun i => [(4, .v (S (stR (s, true) i).1)), (5, .v (.bool (stR (s, true) i).2)), (7, .junk), (11, .v (.int .i64 i))]) (fun i => [(0, .cells [(2, .v (.int .i64 (vAt (s, true) 0 i))), (3, .v (.int .i64 (vAt (s, true) 1 i))), (4, .v (.int .i64 (vAt (s, true) 2 i)))])]) (fun _ => []) 0 (Nat.zero_le _) (by
    (conv => whnf)
    refine ⟨[some 0, some 1], by decide, ?_, ?_⟩
    all_goals repeat' (first | exact leT_junk rfl | refine And.intro ?_ ?_ | exact trivial | exact .inl ⟨rfl, rfl⟩ | rfl | exact .inr ⟨_, rfl, rfl, rfl⟩ | exact ⟨_, rfl, trivial⟩ | exact ⟨_, rfl, rfl⟩ | exact ⟨_, rfl, ⟨rfl, rfl, rfl⟩, fun _ _ _ _ => rfl⟩ | exact ⟨_, rfl, ⟨rfl, rfl, .inl rfl⟩, rfl⟩ | exact ⟨_, rfl, ⟨rfl, rfl, .inr rfl⟩, rfl⟩ | exact ⟨_, rfl, ⟨rfl, rfl, rfl, rfl, rfl⟩, rfl⟩ | exact ⟨_, rfl, ⟨rfl, rfl⟩, fun _ => Iff.rfl⟩ | refine ⟨_, rfl, rfl, ?_⟩)) (fun i hi => ?_)
  have hl := stR_le (s, true) i
  rcases hq : stR (s, true) i with ⟨q1, ok⟩
  rw [hq] at hl
  simp only at hl
  have hu := fun w => unint_v q1 w (by omega)
  have hst : stR (s, true) (i + 1) = rdS (q1, ok) := by rw [← hq]; rfl
  have hv : rdN (stR (s, true) i) = rdN (q1, ok) := by rw [hq]
  obtain ⟨k, hk⟩ : ∃ k, k = i + 1 := ⟨_, rfl⟩
  by_cases hin : i < 3
  · cases ok
    all_goals
      obtain rfl | rfl | rfl : i = 0 ∨ i = 1 ∨ i = 2 := by omega
      all_goals
        repeat' ((conv => whnf); first | refine CutN.plain ?_ | refine Need.go rfl ?_ | with_reducible refine Br.yes rfl ?_ | with_reducible refine Br.no rfl ?_ | refine Ar.i64 (by omega) (by omega) ?_ | (refine call_mem (f := 91) (args := [.v (S q1)]) (V := .tuple #[.int .i64 (uN (unintB q1)), S (rR (unintB q1)), .bool (unintB q1).isSome]) ?_ ?_; exact fun ρ w h => hu w) | refine Need.go (by first | omega | decide | (simp <;> omega) | fail) ?_)
        all_goals (conv => whnf)
        all_goals
          refine ⟨k, by omega, by omega, ?_⟩
          subst hk
          rw [hst]
          (conv => whnf)
          refine ⟨[some 0, some 1], by decide, ?_, ?_⟩
          all_goals repeat' (first | exact vAt_new hv | exact vAt_nil hv | exact leT_junk rfl | refine And.intro ?_ ?_ | exact trivial | exact .inl ⟨rfl, rfl⟩ | rfl | exact .inr ⟨_, rfl, rfl, rfl⟩ | exact ⟨_, rfl, trivial⟩ | exact ⟨_, rfl, rfl⟩ | exact ⟨_, rfl, ⟨rfl, rfl, rfl⟩, fun _ _ _ _ => rfl⟩ | exact ⟨_, rfl, ⟨rfl, rfl, .inl rfl⟩, rfl⟩ | exact ⟨_, rfl, ⟨rfl, rfl, .inr rfl⟩, rfl⟩ | exact ⟨_, rfl, ⟨rfl, rfl, rfl, rfl, rfl⟩, rfl⟩ | exact ⟨_, rfl, ⟨rfl, rfl⟩, fun _ => Iff.rfl⟩ | refine ⟨_, rfl, rfl, ?_⟩)
  · obtain rfl : i = 3 := by omega
    repeat' ((conv => whnf); first | refine CutN.plain ?_ | refine Need.go rfl ?_ | with_reducible refine Br.no rfl ?_)
    all_goals (conv => whnf)
    rw [hq]
    refine ⟨_, _, ⟨rfl, rfl⟩, by simp, trivial, ⟨[some 0, some 1], ⟨by decide, rfl⟩, ?_, ?_⟩⟩
    all_goals repeat' (first | exact leT_junk rfl | refine And.intro ?_ ?_ | exact trivial | exact .inl ⟨rfl, rfl⟩ | rfl | exact .inr ⟨_, rfl, rfl, rfl⟩ | exact ⟨_, rfl, trivial⟩ | exact ⟨_, rfl, rfl⟩ | exact ⟨_, rfl, ⟨rfl, rfl, rfl⟩, fun _ _ _ _ => rfl⟩ | exact ⟨_, rfl, ⟨rfl, rfl, .inl rfl⟩, rfl⟩ | exact ⟨_, rfl, ⟨rfl, rfl, .inr rfl⟩, rfl⟩ | exact ⟨_, rfl, ⟨rfl, rfl, rfl, rfl, rfl⟩, rfl⟩ | exact ⟨_, rfl, ⟨rfl, rfl⟩, fun _ => Iff.rfl⟩ | refine ⟨_, rfl, rfl, ?_⟩)
set_option maxRecDepth 100000 in
set_option maxHeartbeats 4000000 in
theorem ints_3 (f : FrM) (s : List UInt8) (hs : s.length ≤ 1000000) :
    Spec Try.prog 67 [.v (S s), .s 1 0 5 5] [frE { f with epoch := 0, client := 0, seq := 0, try' := 0, reason := 0 } nilS0, .blk 129 [.p 0 1, .p 0 2, .p 0 3, .p 0 4, .p 0 15]]
      fun r H1 => r = .tup [.v (S (stR (s, true) 5).1), .v (.bool (stR (s, true) 5).2)] ∧ H1 = [frE { f with epoch := rdN (stR (s, true) 0), client := rdN (stR (s, true) 1), seq := rdN (stR (s, true) 2), try' := rdN (stR (s, true) 3), reason := rdN (stR (s, true) 4) } nilS0, .blk 129 [.p 0 1, .p 0 2, .p 0 3, .p 0 4, .p 0 15]] := by
  refine spec_x Try.func67 rfl 2 rfl rfl fun w0 U => ?_
  repeat' ((conv => whnf); first | refine CutN.plain ?_)
  all_goals (conv => whnf)
  refine loop_up 12 (fun i : Nat => i ≤ 5) (fun i => 5 - i) (fun i => [(4, .v (S (stR (s, true) i).1)), (5, .v (.bool (stR (s, true) i).2)), (7, .junk), (11, .v (.int .i64 i))]) (fun i => [(0, .cells [(1, .v (.int .i64 (vAt (s, true) 0 i))), (2, .v (.int .i64 (vAt (s, true) 1 i))), (3, .v (.int .i64 (vAt (s, true) 2 i))), (4, .v (.int .i64 (vAt (s, true) 3 i))), (15, .v (.int .i64 (vAt (s, true) 4 i)))])]) (fun _ => []) 0 (Nat.zero_le _) (by
    (conv => whnf)
    refine ⟨[some 0, some 1], by decide, ?_, ?_⟩
    all_goals repeat' (first | exact leT_junk rfl | refine And.intro ?_ ?_ | exact trivial | exact .inl ⟨rfl, rfl⟩ | rfl | exact .inr ⟨_, rfl, rfl, rfl⟩ | exact ⟨_, rfl, trivial⟩ | exact ⟨_, rfl, rfl⟩ | exact ⟨_, rfl, ⟨rfl, rfl, rfl⟩, fun _ _ _ _ => rfl⟩ | exact ⟨_, rfl, ⟨rfl, rfl, .inl rfl⟩, rfl⟩ | exact ⟨_, rfl, ⟨rfl, rfl, .inr rfl⟩, rfl⟩ | exact ⟨_, rfl, ⟨rfl, rfl, rfl, rfl, rfl⟩, rfl⟩ | exact ⟨_, rfl, ⟨rfl, rfl⟩, fun _ => Iff.rfl⟩ | refine ⟨_, rfl, rfl, ?_⟩)) (fun i hi => ?_)
  have hl := stR_le (s, true) i
  rcases hq : stR (s, true) i with ⟨q1, ok⟩
  rw [hq] at hl
  simp only at hl
  have hu := fun w => unint_v q1 w (by omega)
  have hst : stR (s, true) (i + 1) = rdS (q1, ok) := by rw [← hq]; rfl
  have hv : rdN (stR (s, true) i) = rdN (q1, ok) := by rw [hq]
  obtain ⟨k, hk⟩ : ∃ k, k = i + 1 := ⟨_, rfl⟩
  by_cases hin : i < 5
  · cases ok
    all_goals
      obtain rfl | rfl | rfl | rfl | rfl : i = 0 ∨ i = 1 ∨ i = 2 ∨ i = 3 ∨ i = 4 := by omega
      all_goals
        repeat' ((conv => whnf); first | refine CutN.plain ?_ | refine Need.go rfl ?_ | with_reducible refine Br.yes rfl ?_ | with_reducible refine Br.no rfl ?_ | refine Ar.i64 (by omega) (by omega) ?_ | (refine call_mem (f := 91) (args := [.v (S q1)]) (V := .tuple #[.int .i64 (uN (unintB q1)), S (rR (unintB q1)), .bool (unintB q1).isSome]) ?_ ?_; exact fun ρ w h => hu w) | refine Need.go (by first | omega | decide | (simp <;> omega) | fail) ?_)
        all_goals (conv => whnf)
        all_goals
          refine ⟨k, by omega, by omega, ?_⟩
          subst hk
          rw [hst]
          (conv => whnf)
          refine ⟨[some 0, some 1], by decide, ?_, ?_⟩
          all_goals repeat' (first | exact vAt_new hv | exact vAt_nil hv | exact leT_junk rfl | refine And.intro ?_ ?_ | exact trivial | exact .inl ⟨rfl, rfl⟩ | rfl | exact .inr ⟨_, rfl, rfl, rfl⟩ | exact ⟨_, rfl, trivial⟩ | exact ⟨_, rfl, rfl⟩ | exact ⟨_, rfl, ⟨rfl, rfl, rfl⟩, fun _ _ _ _ => rfl⟩ | exact ⟨_, rfl, ⟨rfl, rfl, .inl rfl⟩, rfl⟩ | exact ⟨_, rfl, ⟨rfl, rfl, .inr rfl⟩, rfl⟩ | exact ⟨_, rfl, ⟨rfl, rfl, rfl, rfl, rfl⟩, rfl⟩ | exact ⟨_, rfl, ⟨rfl, rfl⟩, fun _ => Iff.rfl⟩ | refine ⟨_, rfl, rfl, ?_⟩)
  · obtain rfl : i = 5 := by omega
    repeat' ((conv => whnf); first | refine CutN.plain ?_ | refine Need.go rfl ?_ | with_reducible refine Br.no rfl ?_)
    all_goals (conv => whnf)
    rw [hq]
    refine ⟨_, _, ⟨rfl, rfl⟩, by simp, trivial, ⟨[some 0, some 1], ⟨by decide, rfl⟩, ?_, ?_⟩⟩
    all_goals repeat' (first | exact leT_junk rfl | refine And.intro ?_ ?_ | exact trivial | exact .inl ⟨rfl, rfl⟩ | rfl | exact .inr ⟨_, rfl, rfl, rfl⟩ | exact ⟨_, rfl, trivial⟩ | exact ⟨_, rfl, rfl⟩ | exact ⟨_, rfl, ⟨rfl, rfl, rfl⟩, fun _ _ _ _ => rfl⟩ | exact ⟨_, rfl, ⟨rfl, rfl, .inl rfl⟩, rfl⟩ | exact ⟨_, rfl, ⟨rfl, rfl, .inr rfl⟩, rfl⟩ | exact ⟨_, rfl, ⟨rfl, rfl, rfl, rfl, rfl⟩, rfl⟩ | exact ⟨_, rfl, ⟨rfl, rfl⟩, fun _ => Iff.rfl⟩ | refine ⟨_, rfl, rfl, ?_⟩)
set_option maxRecDepth 100000 in
set_option maxHeartbeats 4000000 in
theorem ints_4 (f : FrM) (s : List UInt8) (hs : s.length ≤ 1000000) :
    Spec Try.prog 67 [.v (S s), .s 1 0 1 1] [frE { f with epoch := 0 } nilS0, .blk 129 [.p 0 1]]
      fun r H1 => r = .tup [.v (S (stR (s, true) 1).1), .v (.bool (stR (s, true) 1).2)] ∧ H1 = [frE { f with epoch := rdN (stR (s, true) 0) } nilS0, .blk 129 [.p 0 1]] := by
  refine spec_x Try.func67 rfl 2 rfl rfl fun w0 U => ?_
  repeat' ((conv => whnf); first | refine CutN.plain ?_)
  all_goals (conv => whnf)
  refine loop_up 12 (fun i : Nat => i ≤ 1) (fun i => 1 - i) (fun i => [(4, .v (S (stR (s, true) i).1)), (5, .v (.bool (stR (s, true) i).2)), (7, .junk), (11, .v (.int .i64 i))]) (fun i => [(0, .cells [(1, .v (.int .i64 (vAt (s, true) 0 i)))])]) (fun _ => []) 0 (Nat.zero_le _) (by
    (conv => whnf)
    refine ⟨[some 0, some 1], by decide, ?_, ?_⟩
    all_goals repeat' (first | exact leT_junk rfl | refine And.intro ?_ ?_ | exact trivial | exact .inl ⟨rfl, rfl⟩ | rfl | exact .inr ⟨_, rfl, rfl, rfl⟩ | exact ⟨_, rfl, trivial⟩ | exact ⟨_, rfl, rfl⟩ | exact ⟨_, rfl, ⟨rfl, rfl, rfl⟩, fun _ _ _ _ => rfl⟩ | exact ⟨_, rfl, ⟨rfl, rfl, .inl rfl⟩, rfl⟩ | exact ⟨_, rfl, ⟨rfl, rfl, .inr rfl⟩, rfl⟩ | exact ⟨_, rfl, ⟨rfl, rfl, rfl, rfl, rfl⟩, rfl⟩ | exact ⟨_, rfl, ⟨rfl, rfl⟩, fun _ => Iff.rfl⟩ | refine ⟨_, rfl, rfl, ?_⟩)) (fun i hi => ?_)
  have hl := stR_le (s, true) i
  rcases hq : stR (s, true) i with ⟨q1, ok⟩
  rw [hq] at hl
  simp only at hl
  have hu := fun w => unint_v q1 w (by omega)
  have hst : stR (s, true) (i + 1) = rdS (q1, ok) := by rw [← hq]; rfl
  have hv : rdN (stR (s, true) i) = rdN (q1, ok) := by rw [hq]
  obtain ⟨k, hk⟩ : ∃ k, k = i + 1 := ⟨_, rfl⟩
  by_cases hin : i < 1
  · cases ok
    all_goals
      obtain rfl : i = 0 := by omega
      all_goals
        repeat' ((conv => whnf); first | refine CutN.plain ?_ | refine Need.go rfl ?_ | with_reducible refine Br.yes rfl ?_ | with_reducible refine Br.no rfl ?_ | refine Ar.i64 (by omega) (by omega) ?_ | (refine call_mem (f := 91) (args := [.v (S q1)]) (V := .tuple #[.int .i64 (uN (unintB q1)), S (rR (unintB q1)), .bool (unintB q1).isSome]) ?_ ?_; exact fun ρ w h => hu w) | refine Need.go (by first | omega | decide | (simp <;> omega) | fail) ?_)
        all_goals (conv => whnf)
        all_goals
          refine ⟨k, by omega, by omega, ?_⟩
          subst hk
          rw [hst]
          (conv => whnf)
          refine ⟨[some 0, some 1], by decide, ?_, ?_⟩
          all_goals repeat' (first | exact vAt_new hv | exact vAt_nil hv | exact leT_junk rfl | refine And.intro ?_ ?_ | exact trivial | exact .inl ⟨rfl, rfl⟩ | rfl | exact .inr ⟨_, rfl, rfl, rfl⟩ | exact ⟨_, rfl, trivial⟩ | exact ⟨_, rfl, rfl⟩ | exact ⟨_, rfl, ⟨rfl, rfl, rfl⟩, fun _ _ _ _ => rfl⟩ | exact ⟨_, rfl, ⟨rfl, rfl, .inl rfl⟩, rfl⟩ | exact ⟨_, rfl, ⟨rfl, rfl, .inr rfl⟩, rfl⟩ | exact ⟨_, rfl, ⟨rfl, rfl, rfl, rfl, rfl⟩, rfl⟩ | exact ⟨_, rfl, ⟨rfl, rfl⟩, fun _ => Iff.rfl⟩ | refine ⟨_, rfl, rfl, ?_⟩)
  · obtain rfl : i = 1 := by omega
    repeat' ((conv => whnf); first | refine CutN.plain ?_ | refine Need.go rfl ?_ | with_reducible refine Br.no rfl ?_)
    all_goals (conv => whnf)
    rw [hq]
    refine ⟨_, _, ⟨rfl, rfl⟩, by simp, trivial, ⟨[some 0, some 1], ⟨by decide, rfl⟩, ?_, ?_⟩⟩
    all_goals repeat' (first | exact leT_junk rfl | refine And.intro ?_ ?_ | exact trivial | exact .inl ⟨rfl, rfl⟩ | rfl | exact .inr ⟨_, rfl, rfl, rfl⟩ | exact ⟨_, rfl, trivial⟩ | exact ⟨_, rfl, rfl⟩ | exact ⟨_, rfl, ⟨rfl, rfl, rfl⟩, fun _ _ _ _ => rfl⟩ | exact ⟨_, rfl, ⟨rfl, rfl, .inl rfl⟩, rfl⟩ | exact ⟨_, rfl, ⟨rfl, rfl, .inr rfl⟩, rfl⟩ | exact ⟨_, rfl, ⟨rfl, rfl, rfl, rfl, rfl⟩, rfl⟩ | exact ⟨_, rfl, ⟨rfl, rfl⟩, fun _ => Iff.rfl⟩ | refine ⟨_, rfl, rfl, ?_⟩)
set_option maxRecDepth 100000 in
set_option maxHeartbeats 4000000 in
theorem ints_5 (f : FrM) (s : List UInt8) (hs : s.length ≤ 1000000) :
    Spec Try.prog 67 [.v (S s), .s 1 0 4 4] [frE { f with epoch := 0, index := 0, grant := 0, have' := 0 } nilS0, .blk 129 [.p 0 1, .p 0 26, .p 0 27, .p 0 28]]
      fun r H1 => r = .tup [.v (S (stR (s, true) 4).1), .v (.bool (stR (s, true) 4).2)] ∧ H1 = [frE { f with epoch := rdN (stR (s, true) 0), index := rdN (stR (s, true) 1), grant := rdN (stR (s, true) 2), have' := rdN (stR (s, true) 3) } nilS0, .blk 129 [.p 0 1, .p 0 26, .p 0 27, .p 0 28]] := by
  refine spec_x Try.func67 rfl 2 rfl rfl fun w0 U => ?_
  repeat' ((conv => whnf); first | refine CutN.plain ?_)
  all_goals (conv => whnf)
  refine loop_up 12 (fun i : Nat => i ≤ 4) (fun i => 4 - i) (fun i => [(4, .v (S (stR (s, true) i).1)), (5, .v (.bool (stR (s, true) i).2)), (7, .junk), (11, .v (.int .i64 i))]) (fun i => [(0, .cells [(1, .v (.int .i64 (vAt (s, true) 0 i))), (26, .v (.int .i64 (vAt (s, true) 1 i))), (27, .v (.int .i64 (vAt (s, true) 2 i))), (28, .v (.int .i64 (vAt (s, true) 3 i)))])]) (fun _ => []) 0 (Nat.zero_le _) (by
    (conv => whnf)
    refine ⟨[some 0, some 1], by decide, ?_, ?_⟩
    all_goals repeat' (first | exact leT_junk rfl | refine And.intro ?_ ?_ | exact trivial | exact .inl ⟨rfl, rfl⟩ | rfl | exact .inr ⟨_, rfl, rfl, rfl⟩ | exact ⟨_, rfl, trivial⟩ | exact ⟨_, rfl, rfl⟩ | exact ⟨_, rfl, ⟨rfl, rfl, rfl⟩, fun _ _ _ _ => rfl⟩ | exact ⟨_, rfl, ⟨rfl, rfl, .inl rfl⟩, rfl⟩ | exact ⟨_, rfl, ⟨rfl, rfl, .inr rfl⟩, rfl⟩ | exact ⟨_, rfl, ⟨rfl, rfl, rfl, rfl, rfl⟩, rfl⟩ | exact ⟨_, rfl, ⟨rfl, rfl⟩, fun _ => Iff.rfl⟩ | refine ⟨_, rfl, rfl, ?_⟩)) (fun i hi => ?_)
  have hl := stR_le (s, true) i
  rcases hq : stR (s, true) i with ⟨q1, ok⟩
  rw [hq] at hl
  simp only at hl
  have hu := fun w => unint_v q1 w (by omega)
  have hst : stR (s, true) (i + 1) = rdS (q1, ok) := by rw [← hq]; rfl
  have hv : rdN (stR (s, true) i) = rdN (q1, ok) := by rw [hq]
  obtain ⟨k, hk⟩ : ∃ k, k = i + 1 := ⟨_, rfl⟩
  by_cases hin : i < 4
  · cases ok
    all_goals
      obtain rfl | rfl | rfl | rfl : i = 0 ∨ i = 1 ∨ i = 2 ∨ i = 3 := by omega
      all_goals
        repeat' ((conv => whnf); first | refine CutN.plain ?_ | refine Need.go rfl ?_ | with_reducible refine Br.yes rfl ?_ | with_reducible refine Br.no rfl ?_ | refine Ar.i64 (by omega) (by omega) ?_ | (refine call_mem (f := 91) (args := [.v (S q1)]) (V := .tuple #[.int .i64 (uN (unintB q1)), S (rR (unintB q1)), .bool (unintB q1).isSome]) ?_ ?_; exact fun ρ w h => hu w) | refine Need.go (by first | omega | decide | (simp <;> omega) | fail) ?_)
        all_goals (conv => whnf)
        all_goals
          refine ⟨k, by omega, by omega, ?_⟩
          subst hk
          rw [hst]
          (conv => whnf)
          refine ⟨[some 0, some 1], by decide, ?_, ?_⟩
          all_goals repeat' (first | exact vAt_new hv | exact vAt_nil hv | exact leT_junk rfl | refine And.intro ?_ ?_ | exact trivial | exact .inl ⟨rfl, rfl⟩ | rfl | exact .inr ⟨_, rfl, rfl, rfl⟩ | exact ⟨_, rfl, trivial⟩ | exact ⟨_, rfl, rfl⟩ | exact ⟨_, rfl, ⟨rfl, rfl, rfl⟩, fun _ _ _ _ => rfl⟩ | exact ⟨_, rfl, ⟨rfl, rfl, .inl rfl⟩, rfl⟩ | exact ⟨_, rfl, ⟨rfl, rfl, .inr rfl⟩, rfl⟩ | exact ⟨_, rfl, ⟨rfl, rfl, rfl, rfl, rfl⟩, rfl⟩ | exact ⟨_, rfl, ⟨rfl, rfl⟩, fun _ => Iff.rfl⟩ | refine ⟨_, rfl, rfl, ?_⟩)
  · obtain rfl : i = 4 := by omega
    repeat' ((conv => whnf); first | refine CutN.plain ?_ | refine Need.go rfl ?_ | with_reducible refine Br.no rfl ?_)
    all_goals (conv => whnf)
    rw [hq]
    refine ⟨_, _, ⟨rfl, rfl⟩, by simp, trivial, ⟨[some 0, some 1], ⟨by decide, rfl⟩, ?_, ?_⟩⟩
    all_goals repeat' (first | exact leT_junk rfl | refine And.intro ?_ ?_ | exact trivial | exact .inl ⟨rfl, rfl⟩ | rfl | exact .inr ⟨_, rfl, rfl, rfl⟩ | exact ⟨_, rfl, trivial⟩ | exact ⟨_, rfl, rfl⟩ | exact ⟨_, rfl, ⟨rfl, rfl, rfl⟩, fun _ _ _ _ => rfl⟩ | exact ⟨_, rfl, ⟨rfl, rfl, .inl rfl⟩, rfl⟩ | exact ⟨_, rfl, ⟨rfl, rfl, .inr rfl⟩, rfl⟩ | exact ⟨_, rfl, ⟨rfl, rfl, rfl, rfl, rfl⟩, rfl⟩ | exact ⟨_, rfl, ⟨rfl, rfl⟩, fun _ => Iff.rfl⟩ | refine ⟨_, rfl, rfl, ?_⟩)
set_option maxRecDepth 100000 in
set_option maxHeartbeats 4000000 in
theorem ints_6 (f : FrM) (s : List UInt8) (hs : s.length ≤ 1000000) :
    Spec Try.prog 67 [.v (S s), .s 1 0 2 2] [frE { f with epoch := 0, index := 0 } nilS0, .blk 129 [.p 0 1, .p 0 26]]
      fun r H1 => r = .tup [.v (S (stR (s, true) 2).1), .v (.bool (stR (s, true) 2).2)] ∧ H1 = [frE { f with epoch := rdN (stR (s, true) 0), index := rdN (stR (s, true) 1) } nilS0, .blk 129 [.p 0 1, .p 0 26]] := by
  refine spec_x Try.func67 rfl 2 rfl rfl fun w0 U => ?_
  repeat' ((conv => whnf); first | refine CutN.plain ?_)
  all_goals (conv => whnf)
  refine loop_up 12 (fun i : Nat => i ≤ 2) (fun i => 2 - i) (fun i => [(4, .v (S (stR (s, true) i).1)), (5, .v (.bool (stR (s, true) i).2)), (7, .junk), (11, .v (.int .i64 i))]) (fun i => [(0, .cells [(1, .v (.int .i64 (vAt (s, true) 0 i))), (26, .v (.int .i64 (vAt (s, true) 1 i)))])]) (fun _ => []) 0 (Nat.zero_le _) (by
    (conv => whnf)
    refine ⟨[some 0, some 1], by decide, ?_, ?_⟩
    all_goals repeat' (first | exact leT_junk rfl | refine And.intro ?_ ?_ | exact trivial | exact .inl ⟨rfl, rfl⟩ | rfl | exact .inr ⟨_, rfl, rfl, rfl⟩ | exact ⟨_, rfl, trivial⟩ | exact ⟨_, rfl, rfl⟩ | exact ⟨_, rfl, ⟨rfl, rfl, rfl⟩, fun _ _ _ _ => rfl⟩ | exact ⟨_, rfl, ⟨rfl, rfl, .inl rfl⟩, rfl⟩ | exact ⟨_, rfl, ⟨rfl, rfl, .inr rfl⟩, rfl⟩ | exact ⟨_, rfl, ⟨rfl, rfl, rfl, rfl, rfl⟩, rfl⟩ | exact ⟨_, rfl, ⟨rfl, rfl⟩, fun _ => Iff.rfl⟩ | refine ⟨_, rfl, rfl, ?_⟩)) (fun i hi => ?_)
  have hl := stR_le (s, true) i
  rcases hq : stR (s, true) i with ⟨q1, ok⟩
  rw [hq] at hl
  simp only at hl
  have hu := fun w => unint_v q1 w (by omega)
  have hst : stR (s, true) (i + 1) = rdS (q1, ok) := by rw [← hq]; rfl
  have hv : rdN (stR (s, true) i) = rdN (q1, ok) := by rw [hq]
  obtain ⟨k, hk⟩ : ∃ k, k = i + 1 := ⟨_, rfl⟩
  by_cases hin : i < 2
  · cases ok
    all_goals
      obtain rfl | rfl : i = 0 ∨ i = 1 := by omega
      all_goals
        repeat' ((conv => whnf); first | refine CutN.plain ?_ | refine Need.go rfl ?_ | with_reducible refine Br.yes rfl ?_ | with_reducible refine Br.no rfl ?_ | refine Ar.i64 (by omega) (by omega) ?_ | (refine call_mem (f := 91) (args := [.v (S q1)]) (V := .tuple #[.int .i64 (uN (unintB q1)), S (rR (unintB q1)), .bool (unintB q1).isSome]) ?_ ?_; exact fun ρ w h => hu w) | refine Need.go (by first | omega | decide | (simp <;> omega) | fail) ?_)
        all_goals (conv => whnf)
        all_goals
          refine ⟨k, by omega, by omega, ?_⟩
          subst hk
          rw [hst]
          (conv => whnf)
          refine ⟨[some 0, some 1], by decide, ?_, ?_⟩
          all_goals repeat' (first | exact vAt_new hv | exact vAt_nil hv | exact leT_junk rfl | refine And.intro ?_ ?_ | exact trivial | exact .inl ⟨rfl, rfl⟩ | rfl | exact .inr ⟨_, rfl, rfl, rfl⟩ | exact ⟨_, rfl, trivial⟩ | exact ⟨_, rfl, rfl⟩ | exact ⟨_, rfl, ⟨rfl, rfl, rfl⟩, fun _ _ _ _ => rfl⟩ | exact ⟨_, rfl, ⟨rfl, rfl, .inl rfl⟩, rfl⟩ | exact ⟨_, rfl, ⟨rfl, rfl, .inr rfl⟩, rfl⟩ | exact ⟨_, rfl, ⟨rfl, rfl, rfl, rfl, rfl⟩, rfl⟩ | exact ⟨_, rfl, ⟨rfl, rfl⟩, fun _ => Iff.rfl⟩ | refine ⟨_, rfl, rfl, ?_⟩)
  · obtain rfl : i = 2 := by omega
    repeat' ((conv => whnf); first | refine CutN.plain ?_ | refine Need.go rfl ?_ | with_reducible refine Br.no rfl ?_)
    all_goals (conv => whnf)
    rw [hq]
    refine ⟨_, _, ⟨rfl, rfl⟩, by simp, trivial, ⟨[some 0, some 1], ⟨by decide, rfl⟩, ?_, ?_⟩⟩
    all_goals repeat' (first | exact leT_junk rfl | refine And.intro ?_ ?_ | exact trivial | exact .inl ⟨rfl, rfl⟩ | rfl | exact .inr ⟨_, rfl, rfl, rfl⟩ | exact ⟨_, rfl, trivial⟩ | exact ⟨_, rfl, rfl⟩ | exact ⟨_, rfl, ⟨rfl, rfl, rfl⟩, fun _ _ _ _ => rfl⟩ | exact ⟨_, rfl, ⟨rfl, rfl, .inl rfl⟩, rfl⟩ | exact ⟨_, rfl, ⟨rfl, rfl, .inr rfl⟩, rfl⟩ | exact ⟨_, rfl, ⟨rfl, rfl, rfl, rfl, rfl⟩, rfl⟩ | exact ⟨_, rfl, ⟨rfl, rfl⟩, fun _ => Iff.rfl⟩ | refine ⟨_, rfl, rfl, ?_⟩)
set_option maxRecDepth 100000 in
set_option maxHeartbeats 4000000 in
theorem ints_R (f : FrM) (s : List UInt8) (hs : s.length ≤ 1000000) :
    Spec Try.prog 67 [.v (S s), .s 1 0 1 1] [frE { f with res := { f.res with code := 0 } } nilS0, .blk 129 [.p 0 11]]
      fun r H1 => r = .tup [.v (S (stR (s, true) 1).1), .v (.bool (stR (s, true) 1).2)] ∧ H1 = [frE { f with res := { f.res with code := rdN (stR (s, true) 0) } } nilS0, .blk 129 [.p 0 11]] := by
  refine spec_x Try.func67 rfl 2 rfl rfl fun w0 U => ?_
  repeat' ((conv => whnf); first | refine CutN.plain ?_)
  all_goals (conv => whnf)
  refine loop_up 12 (fun i : Nat => i ≤ 1) (fun i => 1 - i) (fun i => [(4, .v (S (stR (s, true) i).1)), (5, .v (.bool (stR (s, true) i).2)), (7, .junk), (11, .v (.int .i64 i))]) (fun i => [(0, .cells [(11, .v (.int .i64 (vAt (s, true) 0 i)))])]) (fun _ => []) 0 (Nat.zero_le _) (by
    (conv => whnf)
    refine ⟨[some 0, some 1], by decide, ?_, ?_⟩
    all_goals repeat' (first | exact leT_junk rfl | refine And.intro ?_ ?_ | exact trivial | exact .inl ⟨rfl, rfl⟩ | rfl | exact .inr ⟨_, rfl, rfl, rfl⟩ | exact ⟨_, rfl, trivial⟩ | exact ⟨_, rfl, rfl⟩ | exact ⟨_, rfl, ⟨rfl, rfl, rfl⟩, fun _ _ _ _ => rfl⟩ | exact ⟨_, rfl, ⟨rfl, rfl, .inl rfl⟩, rfl⟩ | exact ⟨_, rfl, ⟨rfl, rfl, .inr rfl⟩, rfl⟩ | exact ⟨_, rfl, ⟨rfl, rfl, rfl, rfl, rfl⟩, rfl⟩ | exact ⟨_, rfl, ⟨rfl, rfl⟩, fun _ => Iff.rfl⟩ | refine ⟨_, rfl, rfl, ?_⟩)) (fun i hi => ?_)
  have hl := stR_le (s, true) i
  rcases hq : stR (s, true) i with ⟨q1, ok⟩
  rw [hq] at hl
  simp only at hl
  have hu := fun w => unint_v q1 w (by omega)
  have hst : stR (s, true) (i + 1) = rdS (q1, ok) := by rw [← hq]; rfl
  have hv : rdN (stR (s, true) i) = rdN (q1, ok) := by rw [hq]
  obtain ⟨k, hk⟩ : ∃ k, k = i + 1 := ⟨_, rfl⟩
  by_cases hin : i < 1
  · cases ok
    all_goals
      obtain rfl : i = 0 := by omega
      all_goals
        repeat' ((conv => whnf); first | refine CutN.plain ?_ | refine Need.go rfl ?_ | with_reducible refine Br.yes rfl ?_ | with_reducible refine Br.no rfl ?_ | refine Ar.i64 (by omega) (by omega) ?_ | (refine call_mem (f := 91) (args := [.v (S q1)]) (V := .tuple #[.int .i64 (uN (unintB q1)), S (rR (unintB q1)), .bool (unintB q1).isSome]) ?_ ?_; exact fun ρ w h => hu w) | refine Need.go (by first | omega | decide | (simp <;> omega) | fail) ?_)
        all_goals (conv => whnf)
        all_goals
          refine ⟨k, by omega, by omega, ?_⟩
          subst hk
          rw [hst]
          (conv => whnf)
          refine ⟨[some 0, some 1], by decide, ?_, ?_⟩
          all_goals repeat' (first | exact vAt_new hv | exact vAt_nil hv | exact leT_junk rfl | refine And.intro ?_ ?_ | exact trivial | exact .inl ⟨rfl, rfl⟩ | rfl | exact .inr ⟨_, rfl, rfl, rfl⟩ | exact ⟨_, rfl, trivial⟩ | exact ⟨_, rfl, rfl⟩ | exact ⟨_, rfl, ⟨rfl, rfl, rfl⟩, fun _ _ _ _ => rfl⟩ | exact ⟨_, rfl, ⟨rfl, rfl, .inl rfl⟩, rfl⟩ | exact ⟨_, rfl, ⟨rfl, rfl, .inr rfl⟩, rfl⟩ | exact ⟨_, rfl, ⟨rfl, rfl, rfl, rfl, rfl⟩, rfl⟩ | exact ⟨_, rfl, ⟨rfl, rfl⟩, fun _ => Iff.rfl⟩ | refine ⟨_, rfl, rfl, ?_⟩)
  · obtain rfl : i = 1 := by omega
    repeat' ((conv => whnf); first | refine CutN.plain ?_ | refine Need.go rfl ?_ | with_reducible refine Br.no rfl ?_)
    all_goals (conv => whnf)
    rw [hq]
    refine ⟨_, _, ⟨rfl, rfl⟩, by simp, trivial, ⟨[some 0, some 1], ⟨by decide, rfl⟩, ?_, ?_⟩⟩
    all_goals repeat' (first | exact leT_junk rfl | refine And.intro ?_ ?_ | exact trivial | exact .inl ⟨rfl, rfl⟩ | rfl | exact .inr ⟨_, rfl, rfl, rfl⟩ | exact ⟨_, rfl, trivial⟩ | exact ⟨_, rfl, rfl⟩ | exact ⟨_, rfl, ⟨rfl, rfl, rfl⟩, fun _ _ _ _ => rfl⟩ | exact ⟨_, rfl, ⟨rfl, rfl, .inl rfl⟩, rfl⟩ | exact ⟨_, rfl, ⟨rfl, rfl, .inr rfl⟩, rfl⟩ | exact ⟨_, rfl, ⟨rfl, rfl, rfl, rfl, rfl⟩, rfl⟩ | exact ⟨_, rfl, ⟨rfl, rfl⟩, fun _ => Iff.rfl⟩ | refine ⟨_, rfl, rfl, ?_⟩)
set_option maxRecDepth 100000 in
set_option maxHeartbeats 4000000 in
theorem ints_S (f : FrM) (s : List UInt8) (hs : s.length ≤ 1000000) :
    Spec Try.prog 67 [.v (S s), .s 1 0 2 2] [frE { f with res := { f.res with version := 0, pos := 0 } } nilS0, .blk 129 [.p 0 13, .p 0 14]]
      fun r H1 => r = .tup [.v (S (stR (s, true) 2).1), .v (.bool (stR (s, true) 2).2)] ∧ H1 = [frE { f with res := { f.res with version := rdN (stR (s, true) 0), pos := rdN (stR (s, true) 1) } } nilS0, .blk 129 [.p 0 13, .p 0 14]] := by
  refine spec_x Try.func67 rfl 2 rfl rfl fun w0 U => ?_
  repeat' ((conv => whnf); first | refine CutN.plain ?_)
  all_goals (conv => whnf)
  refine loop_up 12 (fun i : Nat => i ≤ 2) (fun i => 2 - i) (fun i => [(4, .v (S (stR (s, true) i).1)), (5, .v (.bool (stR (s, true) i).2)), (7, .junk), (11, .v (.int .i64 i))]) (fun i => [(0, .cells [(13, .v (.int .i64 (vAt (s, true) 0 i))), (14, .v (.int .i64 (vAt (s, true) 1 i)))])]) (fun _ => []) 0 (Nat.zero_le _) (by
    (conv => whnf)
    refine ⟨[some 0, some 1], by decide, ?_, ?_⟩
    all_goals repeat' (first | exact leT_junk rfl | refine And.intro ?_ ?_ | exact trivial | exact .inl ⟨rfl, rfl⟩ | rfl | exact .inr ⟨_, rfl, rfl, rfl⟩ | exact ⟨_, rfl, trivial⟩ | exact ⟨_, rfl, rfl⟩ | exact ⟨_, rfl, ⟨rfl, rfl, rfl⟩, fun _ _ _ _ => rfl⟩ | exact ⟨_, rfl, ⟨rfl, rfl, .inl rfl⟩, rfl⟩ | exact ⟨_, rfl, ⟨rfl, rfl, .inr rfl⟩, rfl⟩ | exact ⟨_, rfl, ⟨rfl, rfl, rfl, rfl, rfl⟩, rfl⟩ | exact ⟨_, rfl, ⟨rfl, rfl⟩, fun _ => Iff.rfl⟩ | refine ⟨_, rfl, rfl, ?_⟩)) (fun i hi => ?_)
  have hl := stR_le (s, true) i
  rcases hq : stR (s, true) i with ⟨q1, ok⟩
  rw [hq] at hl
  simp only at hl
  have hu := fun w => unint_v q1 w (by omega)
  have hst : stR (s, true) (i + 1) = rdS (q1, ok) := by rw [← hq]; rfl
  have hv : rdN (stR (s, true) i) = rdN (q1, ok) := by rw [hq]
  obtain ⟨k, hk⟩ : ∃ k, k = i + 1 := ⟨_, rfl⟩
  by_cases hin : i < 2
  · cases ok
    all_goals
      obtain rfl | rfl : i = 0 ∨ i = 1 := by omega
      all_goals
        repeat' ((conv => whnf); first | refine CutN.plain ?_ | refine Need.go rfl ?_ | with_reducible refine Br.yes rfl ?_ | with_reducible refine Br.no rfl ?_ | refine Ar.i64 (by omega) (by omega) ?_ | (refine call_mem (f := 91) (args := [.v (S q1)]) (V := .tuple #[.int .i64 (uN (unintB q1)), S (rR (unintB q1)), .bool (unintB q1).isSome]) ?_ ?_; exact fun ρ w h => hu w) | refine Need.go (by first | omega | decide | (simp <;> omega) | fail) ?_)
        all_goals (conv => whnf)
        all_goals
          refine ⟨k, by omega, by omega, ?_⟩
          subst hk
          rw [hst]
          (conv => whnf)
          refine ⟨[some 0, some 1], by decide, ?_, ?_⟩
          all_goals repeat' (first | exact vAt_new hv | exact vAt_nil hv | exact leT_junk rfl | refine And.intro ?_ ?_ | exact trivial | exact .inl ⟨rfl, rfl⟩ | rfl | exact .inr ⟨_, rfl, rfl, rfl⟩ | exact ⟨_, rfl, trivial⟩ | exact ⟨_, rfl, rfl⟩ | exact ⟨_, rfl, ⟨rfl, rfl, rfl⟩, fun _ _ _ _ => rfl⟩ | exact ⟨_, rfl, ⟨rfl, rfl, .inl rfl⟩, rfl⟩ | exact ⟨_, rfl, ⟨rfl, rfl, .inr rfl⟩, rfl⟩ | exact ⟨_, rfl, ⟨rfl, rfl, rfl, rfl, rfl⟩, rfl⟩ | exact ⟨_, rfl, ⟨rfl, rfl⟩, fun _ => Iff.rfl⟩ | refine ⟨_, rfl, rfl, ?_⟩)
  · obtain rfl : i = 2 := by omega
    repeat' ((conv => whnf); first | refine CutN.plain ?_ | refine Need.go rfl ?_ | with_reducible refine Br.no rfl ?_)
    all_goals (conv => whnf)
    rw [hq]
    refine ⟨_, _, ⟨rfl, rfl⟩, by simp, trivial, ⟨[some 0, some 1], ⟨by decide, rfl⟩, ?_, ?_⟩⟩
    all_goals repeat' (first | exact leT_junk rfl | refine And.intro ?_ ?_ | exact trivial | exact .inl ⟨rfl, rfl⟩ | rfl | exact .inr ⟨_, rfl, rfl, rfl⟩ | exact ⟨_, rfl, trivial⟩ | exact ⟨_, rfl, rfl⟩ | exact ⟨_, rfl, ⟨rfl, rfl, rfl⟩, fun _ _ _ _ => rfl⟩ | exact ⟨_, rfl, ⟨rfl, rfl, .inl rfl⟩, rfl⟩ | exact ⟨_, rfl, ⟨rfl, rfl, .inr rfl⟩, rfl⟩ | exact ⟨_, rfl, ⟨rfl, rfl, rfl, rfl, rfl⟩, rfl⟩ | exact ⟨_, rfl, ⟨rfl, rfl⟩, fun _ => Iff.rfl⟩ | refine ⟨_, rfl, rfl, ?_⟩)
set_option maxRecDepth 100000 in
set_option maxHeartbeats 4000000 in
theorem ints_E (f : FrM) (s : List UInt8) (hs : s.length ≤ 1000000) :
    Spec Try.prog 67 [.v (S s), .s 1 0 3 3] [frE { f with ent := { f.ent with index := 0, client := 0, seq := 0 } } nilS0, .blk 129 [.p 0 16, .p 0 17, .p 0 18]]
      fun r H1 => r = .tup [.v (S (stR (s, true) 3).1), .v (.bool (stR (s, true) 3).2)] ∧ H1 = [frE { f with ent := { f.ent with index := rdN (stR (s, true) 0), client := rdN (stR (s, true) 1), seq := rdN (stR (s, true) 2) } } nilS0, .blk 129 [.p 0 16, .p 0 17, .p 0 18]] := by
  refine spec_x Try.func67 rfl 2 rfl rfl fun w0 U => ?_
  repeat' ((conv => whnf); first | refine CutN.plain ?_)
  all_goals (conv => whnf)
  refine loop_up 12 (fun i : Nat => i ≤ 3) (fun i => 3 - i) (fun i => [(4, .v (S (stR (s, true) i).1)), (5, .v (.bool (stR (s, true) i).2)), (7, .junk), (11, .v (.int .i64 i))]) (fun i => [(0, .cells [(16, .v (.int .i64 (vAt (s, true) 0 i))), (17, .v (.int .i64 (vAt (s, true) 1 i))), (18, .v (.int .i64 (vAt (s, true) 2 i)))])]) (fun _ => []) 0 (Nat.zero_le _) (by
    (conv => whnf)
    refine ⟨[some 0, some 1], by decide, ?_, ?_⟩
    all_goals repeat' (first | exact leT_junk rfl | refine And.intro ?_ ?_ | exact trivial | exact .inl ⟨rfl, rfl⟩ | rfl | exact .inr ⟨_, rfl, rfl, rfl⟩ | exact ⟨_, rfl, trivial⟩ | exact ⟨_, rfl, rfl⟩ | exact ⟨_, rfl, ⟨rfl, rfl, rfl⟩, fun _ _ _ _ => rfl⟩ | exact ⟨_, rfl, ⟨rfl, rfl, .inl rfl⟩, rfl⟩ | exact ⟨_, rfl, ⟨rfl, rfl, .inr rfl⟩, rfl⟩ | exact ⟨_, rfl, ⟨rfl, rfl, rfl, rfl, rfl⟩, rfl⟩ | exact ⟨_, rfl, ⟨rfl, rfl⟩, fun _ => Iff.rfl⟩ | refine ⟨_, rfl, rfl, ?_⟩)) (fun i hi => ?_)
  have hl := stR_le (s, true) i
  rcases hq : stR (s, true) i with ⟨q1, ok⟩
  rw [hq] at hl
  simp only at hl
  have hu := fun w => unint_v q1 w (by omega)
  have hst : stR (s, true) (i + 1) = rdS (q1, ok) := by rw [← hq]; rfl
  have hv : rdN (stR (s, true) i) = rdN (q1, ok) := by rw [hq]
  obtain ⟨k, hk⟩ : ∃ k, k = i + 1 := ⟨_, rfl⟩
  by_cases hin : i < 3
  · cases ok
    all_goals
      obtain rfl | rfl | rfl : i = 0 ∨ i = 1 ∨ i = 2 := by omega
      all_goals
        repeat' ((conv => whnf); first | refine CutN.plain ?_ | refine Need.go rfl ?_ | with_reducible refine Br.yes rfl ?_ | with_reducible refine Br.no rfl ?_ | refine Ar.i64 (by omega) (by omega) ?_ | (refine call_mem (f := 91) (args := [.v (S q1)]) (V := .tuple #[.int .i64 (uN (unintB q1)), S (rR (unintB q1)), .bool (unintB q1).isSome]) ?_ ?_; exact fun ρ w h => hu w) | refine Need.go (by first | omega | decide | (simp <;> omega) | fail) ?_)
        all_goals (conv => whnf)
        all_goals
          refine ⟨k, by omega, by omega, ?_⟩
          subst hk
          rw [hst]
          (conv => whnf)
          refine ⟨[some 0, some 1], by decide, ?_, ?_⟩
          all_goals repeat' (first | exact vAt_new hv | exact vAt_nil hv | exact leT_junk rfl | refine And.intro ?_ ?_ | exact trivial | exact .inl ⟨rfl, rfl⟩ | rfl | exact .inr ⟨_, rfl, rfl, rfl⟩ | exact ⟨_, rfl, trivial⟩ | exact ⟨_, rfl, rfl⟩ | exact ⟨_, rfl, ⟨rfl, rfl, rfl⟩, fun _ _ _ _ => rfl⟩ | exact ⟨_, rfl, ⟨rfl, rfl, .inl rfl⟩, rfl⟩ | exact ⟨_, rfl, ⟨rfl, rfl, .inr rfl⟩, rfl⟩ | exact ⟨_, rfl, ⟨rfl, rfl, rfl, rfl, rfl⟩, rfl⟩ | exact ⟨_, rfl, ⟨rfl, rfl⟩, fun _ => Iff.rfl⟩ | refine ⟨_, rfl, rfl, ?_⟩)
  · obtain rfl : i = 3 := by omega
    repeat' ((conv => whnf); first | refine CutN.plain ?_ | refine Need.go rfl ?_ | with_reducible refine Br.no rfl ?_)
    all_goals (conv => whnf)
    rw [hq]
    refine ⟨_, _, ⟨rfl, rfl⟩, by simp, trivial, ⟨[some 0, some 1], ⟨by decide, rfl⟩, ?_, ?_⟩⟩
    all_goals repeat' (first | exact leT_junk rfl | refine And.intro ?_ ?_ | exact trivial | exact .inl ⟨rfl, rfl⟩ | rfl | exact .inr ⟨_, rfl, rfl, rfl⟩ | exact ⟨_, rfl, trivial⟩ | exact ⟨_, rfl, rfl⟩ | exact ⟨_, rfl, ⟨rfl, rfl, rfl⟩, fun _ _ _ _ => rfl⟩ | exact ⟨_, rfl, ⟨rfl, rfl, .inl rfl⟩, rfl⟩ | exact ⟨_, rfl, ⟨rfl, rfl, .inr rfl⟩, rfl⟩ | exact ⟨_, rfl, ⟨rfl, rfl, rfl, rfl, rfl⟩, rfl⟩ | exact ⟨_, rfl, ⟨rfl, rfl⟩, fun _ => Iff.rfl⟩ | refine ⟨_, rfl, rfl, ?_⟩)
end Go.Proofs.Ytlphkjbadjdleaa
namespace Go.Proofs.Ytlphkjbadjdleaa
open Go.RowKit
abbrev inQ (n : Int) : Bool := decide (inN n)
abbrev intE (vs : List Value) : HE := .own 3 1 vs.length fun r c => vs.getD (r * 1 + c) undef
set_option maxRecDepth 100000 in
set_option maxHeartbeats 1000000 in
theorem within1 (a : Int) (r : Bool) (hr : (inQ a) = r) : Spec Try.prog 95 [.os 0 1] [intE [.int .i64 a]] fun s H1 => s = .v (.bool r) ∧ H1 = [intE [.int .i64 a]] := by
  subst hr
  refine spec_x Try.func95 rfl 1 rfl rfl fun w0 U => ?_
  repeat' ((conv => whnf); first | refine CutN.plain ?_)
  all_goals (conv => whnf)
  refine loop_up 8 (fun i : Nat => i ≤ 1 ∧ (0 < i → inN a)) (fun i => 1 - i) (fun i => [(4, .junk), (7, .v (.int .i64 i))]) (fun _ => []) (fun _ => []) 0 (by simp) (by
    (conv => whnf)
    refine ⟨[some 0], by decide, ?_, ?_⟩
    all_goals repeat' (first | exact leT_junk rfl | refine And.intro ?_ ?_ | exact trivial | exact .inl ⟨rfl, rfl⟩ | rfl | exact .inr ⟨_, rfl, rfl, rfl⟩ | exact ⟨_, rfl, trivial⟩ | exact ⟨_, rfl, rfl⟩ | exact ⟨_, rfl, ⟨rfl, rfl, rfl⟩, fun _ _ _ _ => rfl⟩)) (fun i hi => ?_)
  obtain rfl | rfl : i = 0 ∨ i = 1 := by omega
  · repeat' ((conv => whnf); first | refine CutN.plain ?_ | refine Need.go rfl ?_ | with_reducible refine Br.yes rfl ?_ | ((first | with_reducible refine Br.dec (fun h => ?_) (fun h => ?_) | with_reducible refine Br.eqI (fun h => ?_) (fun h => ?_) | with_reducible refine Br.neI (fun h => ?_) (fun h => ?_) | with_reducible refine Br.nd (fun h => ?_) (fun h => ?_)); first | (rotate_left; exfalso; omega; clear h) | (exfalso; omega; clear h) | skip) | refine Ar.i64 (by omega) (by omega) ?_ | refine Need.go (by first | omega | decide | (simp <;> omega) | fail) ?_)
    all_goals (conv => whnf)
    all_goals first
      | (refine ⟨1, by simp only [inN] at hi ⊢; omega, by omega, ?_⟩
         (conv => whnf)
         refine ⟨[some 0], by decide, ?_, ?_⟩
         all_goals repeat' (first | exact leT_junk rfl | refine And.intro ?_ ?_ | exact trivial | exact .inl ⟨rfl, rfl⟩ | rfl | exact .inr ⟨_, rfl, rfl, rfl⟩ | exact ⟨_, rfl, trivial⟩ | exact ⟨_, rfl, rfl⟩ | exact ⟨_, rfl, ⟨rfl, rfl, rfl⟩, fun _ _ _ _ => rfl⟩)
         done)
      | (refine ⟨.v (.bool false), _, ⟨?_, rfl⟩, by simp, trivial, ⟨[some 0], ⟨by decide, rfl⟩, ?_, ?_⟩⟩
         · exact congrArg (fun b => SV.v (Value.bool b)) (by first | (simp [inN] <;> omega) | fail)
         all_goals repeat' (first | exact leT_junk rfl | refine And.intro ?_ ?_ | exact trivial | exact .inl ⟨rfl, rfl⟩ | rfl | exact .inr ⟨_, rfl, rfl, rfl⟩ | exact ⟨_, rfl, trivial⟩ | exact ⟨_, rfl, rfl⟩ | exact ⟨_, rfl, ⟨rfl, rfl, rfl⟩, fun _ _ _ _ => rfl⟩)
         done)
      | fail
  · repeat' ((conv => whnf); first | refine CutN.plain ?_ | refine Need.go rfl ?_ | with_reducible refine Br.no rfl ?_)
    all_goals (conv => whnf)
    refine ⟨.v (.bool true), _, ⟨?_, rfl⟩, by simp, trivial, ⟨[some 0], ⟨by decide, rfl⟩, ?_, ?_⟩⟩
    · have h := hi
      simp only [inN] at h
      exact congrArg (fun b => SV.v (Value.bool b)) (by simp [inN]; omega)
    all_goals repeat' (first | exact leT_junk rfl | refine And.intro ?_ ?_ | exact trivial | exact .inl ⟨rfl, rfl⟩ | rfl | exact .inr ⟨_, rfl, rfl, rfl⟩ | exact ⟨_, rfl, trivial⟩ | exact ⟨_, rfl, rfl⟩ | exact ⟨_, rfl, ⟨rfl, rfl, rfl⟩, fun _ _ _ _ => rfl⟩)
set_option maxRecDepth 100000 in
set_option maxHeartbeats 1000000 in
theorem within2 (a b : Int) (r : Bool) (hr : (inQ a && inQ b) = r) : Spec Try.prog 95 [.os 0 2] [intE [.int .i64 a, .int .i64 b]] fun s H1 => s = .v (.bool r) ∧ H1 = [intE [.int .i64 a, .int .i64 b]] := by
  subst hr
  refine spec_x Try.func95 rfl 1 rfl rfl fun w0 U => ?_
  repeat' ((conv => whnf); first | refine CutN.plain ?_)
  all_goals (conv => whnf)
  refine loop_up 8 (fun i : Nat => i ≤ 2 ∧ (0 < i → inN a) ∧ (1 < i → inN b)) (fun i => 2 - i) (fun i => [(4, .junk), (7, .v (.int .i64 i))]) (fun _ => []) (fun _ => []) 0 (by simp) (by
    (conv => whnf)
    refine ⟨[some 0], by decide, ?_, ?_⟩
    all_goals repeat' (first | exact leT_junk rfl | refine And.intro ?_ ?_ | exact trivial | exact .inl ⟨rfl, rfl⟩ | rfl | exact .inr ⟨_, rfl, rfl, rfl⟩ | exact ⟨_, rfl, trivial⟩ | exact ⟨_, rfl, rfl⟩ | exact ⟨_, rfl, ⟨rfl, rfl, rfl⟩, fun _ _ _ _ => rfl⟩)) (fun i hi => ?_)
  obtain rfl | rfl | rfl : i = 0 ∨ i = 1 ∨ i = 2 := by omega
  · repeat' ((conv => whnf); first | refine CutN.plain ?_ | refine Need.go rfl ?_ | with_reducible refine Br.yes rfl ?_ | ((first | with_reducible refine Br.dec (fun h => ?_) (fun h => ?_) | with_reducible refine Br.eqI (fun h => ?_) (fun h => ?_) | with_reducible refine Br.neI (fun h => ?_) (fun h => ?_) | with_reducible refine Br.nd (fun h => ?_) (fun h => ?_)); first | (rotate_left; exfalso; omega; clear h) | (exfalso; omega; clear h) | skip) | refine Ar.i64 (by omega) (by omega) ?_ | refine Need.go (by first | omega | decide | (simp <;> omega) | fail) ?_)
    all_goals (conv => whnf)
    all_goals first
      | (refine ⟨1, by simp only [inN] at hi ⊢; omega, by omega, ?_⟩
         (conv => whnf)
         refine ⟨[some 0], by decide, ?_, ?_⟩
         all_goals repeat' (first | exact leT_junk rfl | refine And.intro ?_ ?_ | exact trivial | exact .inl ⟨rfl, rfl⟩ | rfl | exact .inr ⟨_, rfl, rfl, rfl⟩ | exact ⟨_, rfl, trivial⟩ | exact ⟨_, rfl, rfl⟩ | exact ⟨_, rfl, ⟨rfl, rfl, rfl⟩, fun _ _ _ _ => rfl⟩)
         done)
      | (refine ⟨.v (.bool false), _, ⟨?_, rfl⟩, by simp, trivial, ⟨[some 0], ⟨by decide, rfl⟩, ?_, ?_⟩⟩
         · exact congrArg (fun b => SV.v (Value.bool b)) (by first | (simp [inN] <;> omega) | fail)
         all_goals repeat' (first | exact leT_junk rfl | refine And.intro ?_ ?_ | exact trivial | exact .inl ⟨rfl, rfl⟩ | rfl | exact .inr ⟨_, rfl, rfl, rfl⟩ | exact ⟨_, rfl, trivial⟩ | exact ⟨_, rfl, rfl⟩ | exact ⟨_, rfl, ⟨rfl, rfl, rfl⟩, fun _ _ _ _ => rfl⟩)
         done)
      | fail
  · repeat' ((conv => whnf); first | refine CutN.plain ?_ | refine Need.go rfl ?_ | with_reducible refine Br.yes rfl ?_ | ((first | with_reducible refine Br.dec (fun h => ?_) (fun h => ?_) | with_reducible refine Br.eqI (fun h => ?_) (fun h => ?_) | with_reducible refine Br.neI (fun h => ?_) (fun h => ?_) | with_reducible refine Br.nd (fun h => ?_) (fun h => ?_)); first | (rotate_left; exfalso; omega; clear h) | (exfalso; omega; clear h) | skip) | refine Ar.i64 (by omega) (by omega) ?_ | refine Need.go (by first | omega | decide | (simp <;> omega) | fail) ?_)
    all_goals (conv => whnf)
    all_goals first
      | (refine ⟨2, by simp only [inN] at hi ⊢; omega, by omega, ?_⟩
         (conv => whnf)
         refine ⟨[some 0], by decide, ?_, ?_⟩
         all_goals repeat' (first | exact leT_junk rfl | refine And.intro ?_ ?_ | exact trivial | exact .inl ⟨rfl, rfl⟩ | rfl | exact .inr ⟨_, rfl, rfl, rfl⟩ | exact ⟨_, rfl, trivial⟩ | exact ⟨_, rfl, rfl⟩ | exact ⟨_, rfl, ⟨rfl, rfl, rfl⟩, fun _ _ _ _ => rfl⟩)
         done)
      | (refine ⟨.v (.bool false), _, ⟨?_, rfl⟩, by simp, trivial, ⟨[some 0], ⟨by decide, rfl⟩, ?_, ?_⟩⟩
         · exact congrArg (fun b => SV.v (Value.bool b)) (by first | (simp [inN] <;> omega) | fail)
         all_goals repeat' (first | exact leT_junk rfl | refine And.intro ?_ ?_ | exact trivial | exact .inl ⟨rfl, rfl⟩ | rfl | exact .inr ⟨_, rfl, rfl, rfl⟩ | exact ⟨_, rfl, trivial⟩ | exact ⟨_, rfl, rfl⟩ | exact ⟨_, rfl, ⟨rfl, rfl, rfl⟩, fun _ _ _ _ => rfl⟩)
         done)
      | fail
  · repeat' ((conv => whnf); first | refine CutN.plain ?_ | refine Need.go rfl ?_ | with_reducible refine Br.no rfl ?_)
    all_goals (conv => whnf)
    refine ⟨.v (.bool true), _, ⟨?_, rfl⟩, by simp, trivial, ⟨[some 0], ⟨by decide, rfl⟩, ?_, ?_⟩⟩
    · have h := hi
      simp only [inN] at h
      exact congrArg (fun b => SV.v (Value.bool b)) (by simp [inN]; omega)
    all_goals repeat' (first | exact leT_junk rfl | refine And.intro ?_ ?_ | exact trivial | exact .inl ⟨rfl, rfl⟩ | rfl | exact .inr ⟨_, rfl, rfl, rfl⟩ | exact ⟨_, rfl, trivial⟩ | exact ⟨_, rfl, rfl⟩ | exact ⟨_, rfl, ⟨rfl, rfl, rfl⟩, fun _ _ _ _ => rfl⟩)
set_option maxRecDepth 100000 in
set_option maxHeartbeats 1000000 in
theorem within3 (a b c : Int) (r : Bool) (hr : (inQ a && inQ b && inQ c) = r) : Spec Try.prog 95 [.os 0 3] [intE [.int .i64 a, .int .i64 b, .int .i64 c]] fun s H1 => s = .v (.bool r) ∧ H1 = [intE [.int .i64 a, .int .i64 b, .int .i64 c]] := by
  subst hr
  refine spec_x Try.func95 rfl 1 rfl rfl fun w0 U => ?_
  repeat' ((conv => whnf); first | refine CutN.plain ?_)
  all_goals (conv => whnf)
  refine loop_up 8 (fun i : Nat => i ≤ 3 ∧ (0 < i → inN a) ∧ (1 < i → inN b) ∧ (2 < i → inN c)) (fun i => 3 - i) (fun i => [(4, .junk), (7, .v (.int .i64 i))]) (fun _ => []) (fun _ => []) 0 (by simp) (by
    (conv => whnf)
    refine ⟨[some 0], by decide, ?_, ?_⟩
    all_goals repeat' (first | exact leT_junk rfl | refine And.intro ?_ ?_ | exact trivial | exact .inl ⟨rfl, rfl⟩ | rfl | exact .inr ⟨_, rfl, rfl, rfl⟩ | exact ⟨_, rfl, trivial⟩ | exact ⟨_, rfl, rfl⟩ | exact ⟨_, rfl, ⟨rfl, rfl, rfl⟩, fun _ _ _ _ => rfl⟩)) (fun i hi => ?_)
  obtain rfl | rfl | rfl | rfl : i = 0 ∨ i = 1 ∨ i = 2 ∨ i = 3 := by omega
  · repeat' ((conv => whnf); first | refine CutN.plain ?_ | refine Need.go rfl ?_ | with_reducible refine Br.yes rfl ?_ | ((first | with_reducible refine Br.dec (fun h => ?_) (fun h => ?_) | with_reducible refine Br.eqI (fun h => ?_) (fun h => ?_) | with_reducible refine Br.neI (fun h => ?_) (fun h => ?_) | with_reducible refine Br.nd (fun h => ?_) (fun h => ?_)); first | (rotate_left; exfalso; omega; clear h) | (exfalso; omega; clear h) | skip) | refine Ar.i64 (by omega) (by omega) ?_ | refine Need.go (by first | omega | decide | (simp <;> omega) | fail) ?_)
    all_goals (conv => whnf)
    all_goals first
      | (refine ⟨1, by simp only [inN] at hi ⊢; omega, by omega, ?_⟩
         (conv => whnf)
         refine ⟨[some 0], by decide, ?_, ?_⟩
         all_goals repeat' (first | exact leT_junk rfl | refine And.intro ?_ ?_ | exact trivial | exact .inl ⟨rfl, rfl⟩ | rfl | exact .inr ⟨_, rfl, rfl, rfl⟩ | exact ⟨_, rfl, trivial⟩ | exact ⟨_, rfl, rfl⟩ | exact ⟨_, rfl, ⟨rfl, rfl, rfl⟩, fun _ _ _ _ => rfl⟩)
         done)
      | (refine ⟨.v (.bool false), _, ⟨?_, rfl⟩, by simp, trivial, ⟨[some 0], ⟨by decide, rfl⟩, ?_, ?_⟩⟩
         · exact congrArg (fun b => SV.v (Value.bool b)) (by first | (simp [inN] <;> omega) | fail)
         all_goals repeat' (first | exact leT_junk rfl | refine And.intro ?_ ?_ | exact trivial | exact .inl ⟨rfl, rfl⟩ | rfl | exact .inr ⟨_, rfl, rfl, rfl⟩ | exact ⟨_, rfl, trivial⟩ | exact ⟨_, rfl, rfl⟩ | exact ⟨_, rfl, ⟨rfl, rfl, rfl⟩, fun _ _ _ _ => rfl⟩)
         done)
      | fail
  · repeat' ((conv => whnf); first | refine CutN.plain ?_ | refine Need.go rfl ?_ | with_reducible refine Br.yes rfl ?_ | ((first | with_reducible refine Br.dec (fun h => ?_) (fun h => ?_) | with_reducible refine Br.eqI (fun h => ?_) (fun h => ?_) | with_reducible refine Br.neI (fun h => ?_) (fun h => ?_) | with_reducible refine Br.nd (fun h => ?_) (fun h => ?_)); first | (rotate_left; exfalso; omega; clear h) | (exfalso; omega; clear h) | skip) | refine Ar.i64 (by omega) (by omega) ?_ | refine Need.go (by first | omega | decide | (simp <;> omega) | fail) ?_)
    all_goals (conv => whnf)
    all_goals first
      | (refine ⟨2, by simp only [inN] at hi ⊢; omega, by omega, ?_⟩
         (conv => whnf)
         refine ⟨[some 0], by decide, ?_, ?_⟩
         all_goals repeat' (first | exact leT_junk rfl | refine And.intro ?_ ?_ | exact trivial | exact .inl ⟨rfl, rfl⟩ | rfl | exact .inr ⟨_, rfl, rfl, rfl⟩ | exact ⟨_, rfl, trivial⟩ | exact ⟨_, rfl, rfl⟩ | exact ⟨_, rfl, ⟨rfl, rfl, rfl⟩, fun _ _ _ _ => rfl⟩)
         done)
      | (refine ⟨.v (.bool false), _, ⟨?_, rfl⟩, by simp, trivial, ⟨[some 0], ⟨by decide, rfl⟩, ?_, ?_⟩⟩
         · exact congrArg (fun b => SV.v (Value.bool b)) (by first | (simp [inN] <;> omega) | fail)
         all_goals repeat' (first | exact leT_junk rfl | refine And.intro ?_ ?_ | exact trivial | exact .inl ⟨rfl, rfl⟩ | rfl | exact .inr ⟨_, rfl, rfl, rfl⟩ | exact ⟨_, rfl, trivial⟩ | exact ⟨_, rfl, rfl⟩ | exact ⟨_, rfl, ⟨rfl, rfl, rfl⟩, fun _ _ _ _ => rfl⟩)
         done)
      | fail
  · repeat' ((conv => whnf); first | refine CutN.plain ?_ | refine Need.go rfl ?_ | with_reducible refine Br.yes rfl ?_ | ((first | with_reducible refine Br.dec (fun h => ?_) (fun h => ?_) | with_reducible refine Br.eqI (fun h => ?_) (fun h => ?_) | with_reducible refine Br.neI (fun h => ?_) (fun h => ?_) | with_reducible refine Br.nd (fun h => ?_) (fun h => ?_)); first | (rotate_left; exfalso; omega; clear h) | (exfalso; omega; clear h) | skip) | refine Ar.i64 (by omega) (by omega) ?_ | refine Need.go (by first | omega | decide | (simp <;> omega) | fail) ?_)
    all_goals (conv => whnf)
    all_goals first
      | (refine ⟨3, by simp only [inN] at hi ⊢; omega, by omega, ?_⟩
         (conv => whnf)
         refine ⟨[some 0], by decide, ?_, ?_⟩
         all_goals repeat' (first | exact leT_junk rfl | refine And.intro ?_ ?_ | exact trivial | exact .inl ⟨rfl, rfl⟩ | rfl | exact .inr ⟨_, rfl, rfl, rfl⟩ | exact ⟨_, rfl, trivial⟩ | exact ⟨_, rfl, rfl⟩ | exact ⟨_, rfl, ⟨rfl, rfl, rfl⟩, fun _ _ _ _ => rfl⟩)
         done)
      | (refine ⟨.v (.bool false), _, ⟨?_, rfl⟩, by simp, trivial, ⟨[some 0], ⟨by decide, rfl⟩, ?_, ?_⟩⟩
         · exact congrArg (fun b => SV.v (Value.bool b)) (by first | (simp [inN] <;> omega) | fail)
         all_goals repeat' (first | exact leT_junk rfl | refine And.intro ?_ ?_ | exact trivial | exact .inl ⟨rfl, rfl⟩ | rfl | exact .inr ⟨_, rfl, rfl, rfl⟩ | exact ⟨_, rfl, trivial⟩ | exact ⟨_, rfl, rfl⟩ | exact ⟨_, rfl, ⟨rfl, rfl, rfl⟩, fun _ _ _ _ => rfl⟩)
         done)
      | fail
  · repeat' ((conv => whnf); first | refine CutN.plain ?_ | refine Need.go rfl ?_ | with_reducible refine Br.no rfl ?_)
    all_goals (conv => whnf)
    refine ⟨.v (.bool true), _, ⟨?_, rfl⟩, by simp, trivial, ⟨[some 0], ⟨by decide, rfl⟩, ?_, ?_⟩⟩
    · have h := hi
      simp only [inN] at h
      exact congrArg (fun b => SV.v (Value.bool b)) (by simp [inN]; omega)
    all_goals repeat' (first | exact leT_junk rfl | refine And.intro ?_ ?_ | exact trivial | exact .inl ⟨rfl, rfl⟩ | rfl | exact .inr ⟨_, rfl, rfl, rfl⟩ | exact ⟨_, rfl, trivial⟩ | exact ⟨_, rfl, rfl⟩ | exact ⟨_, rfl, ⟨rfl, rfl, rfl⟩, fun _ _ _ _ => rfl⟩)
end Go.Proofs.Ytlphkjbadjdleaa
