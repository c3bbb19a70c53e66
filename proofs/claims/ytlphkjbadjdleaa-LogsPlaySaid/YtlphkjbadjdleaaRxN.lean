/-
  A function's contract over the little memory that it speaks of, in a greater one; objects with a map. No condition.
-/
import Derived.Test.YtlphkjbadjdleaaRxK
namespace Go.Proofs.Ytlphkjbadjdleaa

/-- One entry is another thing; what it spoke of was written. -/
theorem HOk.setF {w0 : World} {U : Nat → Prop} {ρ : Loc} {H : List HE} {w w' : World} (h : HOk w0 U ρ H w) {i : Nat} {d d' : HE} (hi : H[i]? = some d) (hd : d.wr) (hf : ∀ b, d'.foot ρ i b → d.foot ρ i b)
    (hw : d'.ok ρ w' i) (hg : Fr (d.foot ρ i) w w') : HOk w0 U ρ (H.set i d') w' := by
  have key : ∀ j e, (H.set i d')[j]? = some e → (j ≠ i ∧ H[j]? = some e) ∨ (j = i ∧ e = d') := fun j e hj => by
    rw [List.getElem?_set] at hj
    split at hj
    · rename_i hij; subst hij
      split at hj
      · exact .inr ⟨rfl, by simpa using hj.symm⟩
      · cases hj
    · rename_i hij; exact .inl ⟨fun h => hij h.symm, hj⟩
  refine ⟨fun j e hj => ?_, fun j e hj he b hb' => ?_, fun j k d1 e1 hjk hj he1 hk hl b ha hb' => ?_, ?_⟩
  · rcases key j e hj with ⟨hne, hj'⟩ | ⟨rfl, rfl⟩
    · exact HE.ok_fr (h.ent j e hj') hg (fun hl b hb' hd' => h.dis i j d e (Ne.symm hne) hi hd hj' hl b hd' hb')
    · exact hw
  · rcases key j _ hj with ⟨hne, hj'⟩ | ⟨hji, hde⟩
    · exact h.own j _ hj' he b hb'
    · subst hji; subst hde
      exact h.own j _ hi hd b (hf b hb')
  · rcases key j _ hj with ⟨hne, hj'⟩ | ⟨hji, hde⟩ <;> rcases key k _ hk with ⟨hne', hk'⟩ | ⟨hki, hee⟩
    · exact h.dis j k _ _ hjk hj' he1 hk' hl b ha hb'
    · subst hki; subst hee
      exact h.dis j k _ _ hjk hj' he1 hi (HE.wr_live hd) b ha (hf b hb')
    · subst hji; subst hde
      exact h.dis j k _ _ hjk hi hd hk' hl b (hf b ha) hb'
    · exact absurd (hji.trans hki.symm) hjk
  · exact ⟨hg.os.trans h.fr.os, hg.tape.trans h.fr.tape, hg.output.trans h.fr.output, Nat.le_trans h.fr.size hg.size, fun b hb hn => (hg.block b (Nat.lt_of_lt_of_le hb h.fr.size) (fun hd' => by
      rcases h.own i d hi hd b hd' with h1 | h1
      · omega
      · exact hn h1)).trans (h.fr.block b hb hn)⟩
theorem getH_res {H : List HE} {i : Nat} {wr : Bool} {Z : Nat → Prop} {Q : World → Prop} (h : getH H i = .res wr Z Q) : H[i]? = some (.res wr Z Q) := by
  have := getH_spec H i (by rw [h]; exact fun h => by cases h)
  rw [this, h]
section
variable {P : Program} {w0 : World} {U : Nat → Prop}
/-- A call that works on an object with a map. -/
theorem call_obj1 {f : FuncId} {args : List SV} {H : List HE} {K : SV → List HE → Prop} {V : Value} (i : Nat) {ty : TypeId} {p q : List Value} {ag : Bool} {zk : List Value} {es : List (Value × Value)} (es' : List (Value × Value)) (hi : getH H i = .obj1 ty p q ag zk es)
    (hc : ∀ ρ w sb mb, HRel w0 U ρ H w → ρ i = some ⟨sb, mb, none⟩ → sb ≠ mb → Blk w sb ty (p ++ [Value.map (some mb)] ++ q).toArray → MapIs w mb ag zk es none →
      Calls P f (SV.denL ρ args).toArray w fun e w' => e = .returned V ∧ Blk w' sb ty (p ++ [Value.map (some mb)] ++ q).toArray ∧ MapIs w' mb ag zk es' none ∧ Fr (fun b => b = sb ∨ b = mb) w w')
    (hK : setHK H i (.obj1 ty p q ag zk es') fun H' => K (.v V) H') : CallN P w0 U f args H K :=
  ⟨fun ρ w hr => by
    have hi' := getH_obj1 hi
    have hilt : i < H.length := (List.getElem?_eq_some_iff.1 hi').1
    obtain ⟨sb, mb, h1, h0, h2, h3⟩ := hr.at.ent i _ hi'
    refine (hc ρ w sb mb hr h1 h0 h2 h3).mono fun _ _ ⟨he, hb, hm, hg⟩ => ⟨.v V, _, ρ, fun _ _ => he, fun ρ'' hs => ?_, Same.refl _ _, by simp, setHK_spec _ _ _ _ hK⟩
    have hs : Same H.length ρ ρ'' := by simpa using hs
    have h1' : ρ'' i = some ⟨sb, mb, none⟩ := by rw [hs i hilt]; exact h1
    exact (hr ρ'' hs).setF hi' trivial (fun b hb => hb) ⟨sb, mb, h1', h0, hb, hm⟩ (hg.mono fun k _ hk => by
      rcases hk with rfl | rfl
      · exact ⟨_, h1', .inl rfl⟩
      · exact ⟨_, h1', .inr rfl⟩)⟩
/-- A call that hands back a new one. -/
theorem call_new1 {f : FuncId} {args : List SV} {H : List HE} {K : SV → List HE → Prop} (ty : TypeId) (p q : List Value) (ag : Bool) (zk : List Value) (es : List (Value × Value))
    (hc : ∀ ρ w, HRel w0 U ρ H w → Calls P f (SV.denL ρ args).toArray w fun e w' => ∃ sb mb, e = .returned (.pointer (some ⟨sb, 0, none⟩)) ∧ sb ≠ mb ∧ w.heap.size ≤ sb ∧ w.heap.size ≤ mb ∧ Blk w' sb ty (p ++ [Value.map (some mb)] ++ q).toArray ∧ MapIs w' mb ag zk es none ∧ w.grownBy w' none)
    (hK : lenK H fun N => appK H (.obj1 ty p q ag zk es) fun H' => K (.p N 0) H') : CallN P w0 U f args H K :=
  ⟨fun ρ w hr => (hc ρ w hr).mono fun e w' ⟨sb, mb, he, hne, hs, hm, hb, hM, hg⟩ => by
    have hK := appK_spec _ _ _ (lenK_spec hK)
    let ρ' : Loc := upd ρ H.length ⟨sb, mb, none⟩
    have key : ∀ ρ'', Same (H ++ [HE.obj1 ty p q ag zk es]).length ρ' ρ'' → Same H.length ρ ρ'' ∧ ρ'' H.length = some ⟨sb, mb, none⟩ := fun ρ'' h'' =>
      ⟨(upd_same ρ _ _).trans (h''.mono (n := H.length) (by simp)) (Nat.le_refl _), by rw [h'' H.length (by simp)]; simp [ρ', upd]⟩
    refine ⟨.p H.length 0, _, ρ', fun ρ'' h'' => by rw [he]; simp [SV.den, atB, (key ρ'' h'').2], fun ρ'' h'' => ?_, upd_same ρ _ _, by simp, hK⟩
    obtain ⟨k1, k2⟩ := key ρ'' h''
    have hok := hr ρ'' k1
    have ft : ∀ b, (HE.obj1 ty p q ag zk es).foot ρ'' H.length b → w.heap.size ≤ b := fun b ⟨a, ha, hab⟩ => by
      rw [k2] at ha; cases ha
      rcases hab with rfl | rfl
      · exact hs
      · exact hm
    exact addHF (keepH hok hg (fun _ _ _ _ _ _ => by simp) (fun k hk => by cases hk)) ⟨sb, mb, k2, hne, hb, hM⟩ (fun _ b hb => .inl (Nat.le_trans hok.fr.size (ft b hb))) (fun i d hi hl _ b hb hd => by
      have := HE.ok_lt (hok.ent i d hi) hl hd
      have := ft b hb
      omega)⟩
/-- The same in a region that draws its order. -/
theorem seg_new1 {nb : Nat} {f : FuncId} {args : List SV} {H : List HE} {N : Nat} {K : SV → Option HE → Prop} (ty : TypeId) (p q : List Value) (ag : Bool) (zk : List Value) (es : List (Value × Value))
    (hc : ∀ ρ w, HRel w0 U ρ H w → Calls P f (SV.denL ρ args).toArray w fun e w' => ∃ sb mb, e = .returned (.pointer (some ⟨sb, 0, none⟩)) ∧ sb ≠ mb ∧ w.heap.size ≤ sb ∧ w.heap.size ≤ mb ∧ Blk w' sb ty (p ++ [Value.map (some mb)] ++ q).toArray ∧ MapIs w' mb ag zk es none ∧ w.grownBy w' none)
    (hK : K (.p N 0) (some (.obj1 ty p q ag zk es))) : CallS P w0 U nb f args H N K :=
  ⟨.p N 0, _, hK, fun ρ w hr _ => (hc ρ w hr).mono fun e w' ⟨sb, mb, he, hne, hs, hm, hb, hM, hg⟩ => ⟨.inl hg, some ⟨sb, mb, none⟩, .pointer (some ⟨sb, 0, none⟩), fun a ha => (by cases ha; exact hs), he, fun ρ' _ hN =>
    ⟨by simp [SV.den, atB, hN rfl], fun e0 h0 => by
      cases h0
      refine ⟨⟨sb, mb, hN rfl, hne, hb, hM⟩, fun b ⟨a, ha, hab⟩ => ?_⟩
      rw [hN rfl] at ha; cases ha
      rcases hab with rfl | rfl
      · exact hs
      · exact hm⟩⟩⟩
end
/-- What a walk of such an object's methods begins with. -/
theorem relO1' {w : World} {sb mb : Nat} {ty : TypeId} {p q : List Value} {cs : List SV} {ag : Bool} {zk : List Value} {es : List (Value × Value)} {st : Option (Array MapEntry × Nat)} (hne : sb ≠ mb) (hb : Blk w sb ty (p ++ [Value.map (some mb)] ++ q).toArray) (hM : MapIs w mb ag zk es st)
    (hcs : ∀ ρ : Loc, ρ 1 = some ⟨mb, 0, none⟩ → SV.denL ρ cs = p ++ [Value.map (some mb)] ++ q) :
    HRel w (fun b => b = sb ∨ b = mb) (fun i => if i = 0 then some ⟨sb, 0, none⟩ else some ⟨mb, 0, none⟩) [.blk ty cs, .mp ag zk es st] w := by
  intro ρ' hs
  have h0 : ρ' 0 = some ⟨sb, 0, none⟩ := hs 0 (by simp)
  have h1 : ρ' 1 = some ⟨mb, 0, none⟩ := hs 1 (by simp)
  refine ⟨fun i e hi => ?_, fun i e hi hw x hx => ?_, fun i j d e hij hi hd hj hl x hx hy => ?_, Fr.refl _ _⟩
  · rcases i with _ | _ | i
    · simp at hi; subst hi
      exact ⟨sb, h0, by rw [hcs ρ' h1]; exact hb⟩
    · simp at hi; subst hi
      exact ⟨mb, h1, hM⟩
    · simp at hi
  · rcases i with _ | _ | i
    · simp at hi; subst hi
      obtain ⟨y, hy, rfl⟩ := hx
      rw [h0] at hy; cases hy
      exact .inr (.inl rfl)
    · simp at hi; subst hi
      obtain ⟨y, hy, rfl⟩ := hx
      rw [h1] at hy; cases hy
      exact .inr (.inr rfl)
    · simp at hi
  · rcases i with _ | _ | i
    · simp at hi; subst hi
      rcases j with _ | _ | j
      · exact absurd rfl hij
      · simp at hj; subst hj
        obtain ⟨y, hy', rfl⟩ := hx
        obtain ⟨z, hz, hzy⟩ := hy
        rw [h0] at hy'; cases hy'
        rw [h1] at hz; cases hz
        exact hne hzy.symm
      · simp at hj
    · simp at hi; subst hi
      rcases j with _ | _ | j
      · simp at hj; subst hj
        obtain ⟨y, hy', rfl⟩ := hx
        obtain ⟨z, hz, hzy⟩ := hy
        rw [h1] at hy'; cases hy'
        rw [h0] at hz; cases hz
        exact hne hzy
      · exact absurd rfl hij
      · simp at hj
    · simp at hi
theorem relO1 {w : World} {sb mb : Nat} {ty : TypeId} {p q : List Value} {cs : List SV} {ag : Bool} {zk : List Value} {es : List (Value × Value)} (hne : sb ≠ mb) (hb : Blk w sb ty (p ++ [Value.map (some mb)] ++ q).toArray) (hM : MapIs w mb ag zk es none)
    (hcs : ∀ ρ : Loc, ρ 1 = some ⟨mb, 0, none⟩ → SV.denL ρ cs = p ++ [Value.map (some mb)] ++ q) :
    HRel w (fun b => b = sb ∨ b = mb) (fun i => if i = 0 then some ⟨sb, 0, none⟩ else some ⟨mb, 0, none⟩) [.blk ty cs, .mp ag zk es none] w := relO1' hne hb hM hcs
/-- The end where all was read alone. -/
theorem endO1' {w w' : World} {sb mb : Nat} {ρ' : Loc} {H' : List HE} {ty : TypeId} {p q : List Value} {cs : List SV} {ag : Bool} {zk : List Value} {es : List (Value × Value)} {ents : Array MapEntry} {clock : Nat} (hr : HRel w (fun b => b = sb ∨ b = mb) ρ' H' w') (hs : Same 2 (fun i => if i = 0 then some ⟨sb, 0, none⟩ else some ⟨mb, 0, none⟩) ρ')
    (hb : Blk w sb ty (p ++ [Value.map (some mb)] ++ q).toArray) (hg : w.heap[mb]? = some (.map ents clock)) (h0 : getH H' 0 = .blk ty cs) (h1 : getH H' 1 = .mp ag zk es (some (ents, clock))) (hcs : ∀ ρ : Loc, ρ 1 = some ⟨mb, 0, none⟩ → SV.denL ρ cs = p ++ [Value.map (some mb)] ++ q) : w.grownBy w' none := by
  have e0 : ρ' 0 = some ⟨sb, 0, none⟩ := hs 0 (by simp)
  have e1 : ρ' 1 = some ⟨mb, 0, none⟩ := hs 1 (by simp)
  obtain ⟨b, hb', hk⟩ := hr.at.ent 0 _ (getH_blk h0)
  obtain ⟨r, hr1, ⟨ents', clock', hg', _, _, _, hx⟩, _, _⟩ := hr.at.ent 1 _ (getH_mp h1)
  rw [e0] at hb'; cases hb'
  rw [e1] at hr1; cases hr1
  rw [hcs ρ' e1] at hk
  have := hx _ rfl
  simp only [Prod.mk.injEq] at this
  obtain ⟨rfl, rfl⟩ := this
  have hf := hr.at.fr
  refine ⟨hf.os, hf.tape, hf.output, hf.size, fun i hi _ => ?_⟩
  by_cases h1 : i = sb
  · subst h1; exact hk.trans hb.symm
  · by_cases h2 : i = mb
    · subst h2; exact hg'.trans hg.symm
    · exact hf.block i hi (fun h => by rcases h with h | h; exact h1 h; exact h2 h)
/-- What such a walk ends with. -/
theorem endO1 {w w' : World} {U : Nat → Prop} {sb mb : Nat} {ρ' : Loc} {H' : List HE} {ty : TypeId} {p q : List Value} {cs : List SV} {ag : Bool} {zk : List Value} {es : List (Value × Value)} (hr : HRel w U ρ' H' w') (hs : Same 2 (fun i => if i = 0 then some ⟨sb, 0, none⟩ else some ⟨mb, 0, none⟩) ρ')
    (h0 : getH H' 0 = .blk ty cs) (h1 : getH H' 1 = .mp ag zk es none) (hcs : ∀ ρ : Loc, ρ 1 = some ⟨mb, 0, none⟩ → SV.denL ρ cs = p ++ [Value.map (some mb)] ++ q) : Blk w' sb ty (p ++ [Value.map (some mb)] ++ q).toArray ∧ MapIs w' mb ag zk es none ∧ Fr U w w' := by
  have e0 : ρ' 0 = some ⟨sb, 0, none⟩ := hs 0 (by simp)
  have e1 : ρ' 1 = some ⟨mb, 0, none⟩ := hs 1 (by simp)
  obtain ⟨b, hb, hk⟩ := hr.at.ent 0 _ (getH_blk h0)
  obtain ⟨r, hr1, hM⟩ := hr.at.ent 1 _ (getH_mp h1)
  rw [e0] at hb; cases hb
  rw [e1] at hr1; cases hr1
  rw [hcs ρ' e1] at hk
  exact ⟨hk, hM, hr.at.fr⟩
/-- A call that hands back a closed value that a fact is known of, which lies in blocks of its own. -/
theorem call_res {P : Program} {w0 : World} {U : Nat → Prop} {f : FuncId} {args : List SV} {H : List HE} {K : SV → List HE → Prop} (V : Value → Value) (Q : Value → World → Prop)
    (hc : ∀ ρ w, HRel w0 U ρ H w → Calls P f (SV.denL ρ args).toArray w fun e w' => ∃ (v : Value) (Z : Nat → Prop), e = .returned (V v) ∧ Q v w' ∧ (∀ b, Z b → w.heap.size ≤ b ∧ b < w'.heap.size) ∧ (∀ w1 w2 : World, (∀ b, Z b → w2.heap[b]? = w1.heap[b]?) → Q v w1 → Q v w2) ∧ w.grownBy w' none)
    (hK : ∀ v Z, appK H (.res true Z (Q v)) fun H' => K (.v (V v)) H') : CallN P w0 U f args H K :=
  ⟨fun ρ w hr => (hc ρ w hr).mono fun e w' ⟨v, Z, he, hQ, hZ, hst, hg⟩ => ⟨.v (V v), _, ρ, fun _ _ => he, fun ρ'' h'' => by
    have h'' : Same H.length ρ ρ'' := h''.mono (by simp)
    have hok := hr ρ'' h''
    exact addHF (keepH hok hg (fun _ _ _ _ _ _ => by simp) (fun k hk => by cases hk)) ⟨hQ, fun b hb => (hZ b hb).2, hst⟩ (fun _ b hb => .inl (Nat.le_trans hok.fr.size (hZ b hb).1)) (fun i d hi hl _ b hb hd => by
      have := HE.ok_lt (hok.ent i d hi) hl hd
      have := (hZ b hb).1
      omega), Same.refl _ _, by simp, appK_spec _ _ _ (hK v Z)⟩⟩
end Go.Proofs.Ytlphkjbadjdleaa
