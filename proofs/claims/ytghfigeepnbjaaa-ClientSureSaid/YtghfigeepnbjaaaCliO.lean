/-
  ClientOnce, plainly. No program in sight, no condition.
-/
import Derived.Test.YtghfigeepnbjaaaCliT
namespace Go.Proofs.Ytghfigeepnbjaaa
/-- What is so of a client, and of what is counted (tried, refused, seq; e: the epochs told). -/
structure OnceSt (d : CfgM) (n : Int) (k : Nat) (c : CliM) (e tried refused seq : Int) : Prop where
  st : CliSt d n k c
  hsq : c.seq = seq
  htr : c.tries = tried
  ref : 0 ≤ refused ∧ refused ≤ tried
  bud : tried ≤ d.budget + (if c.doing = 1 ∨ c.doing = 3 then 0 else 1)
  no : c.sl = .no ↔ seq = 0
  out : ∀ o, c.sl = .set o → 1 ≤ o.kind ∧ o.kind ≤ 3
  ch : c.ch.epoch ≤ 1 + e
  acc : ¬ c.doing = 0 → c.unsure = false → tried ≤ refused + (if c.doing = 2 then 1 else 0)
/-- What an act leaves, of what was (c: ahead of it; g: was a call begun?). -/
structure OnceTo (d : CfgM) (n : Int) (k : Nat) (c c' : CliM) (e tried refused seq : Int) (g : Bool) : Prop where
  st : OnceSt d n k c' e tried refused seq
  same : (outcC c).2 = true → g = false → outcC c' = outcC c
  rej : (outcC c).2 = false → (outcC c').2 = true → (outcC c').1.kind = 2 → tried ≤ refused
theorem outcC_set {c : CliM} {o : OutM} (h : c.sl = .set o) : outcC c = (o, true) := by unfold outcC; rw [h]
theorem outcC_un {c : CliM} (h : ∀ o, ¬ c.sl = .set o) : outcC c = (noOut, false) := by
  unfold outcC
  cases hs : c.sl with
  | no => rfl
  | opn => rfl
  | set o => exact absurd hs (h o)
theorem outcC_eq {c c' : CliM} (h : c'.sl = c.sl) : outcC c' = outcC c := by unfold outcC; rw [h]
/-- There is an outcome just if a call was, and is done. -/
theorem OnceSt.has {d : CfgM} {n : Int} {k : Nat} {c : CliM} {e tried refused seq : Int} (h : OnceSt d n k c e tried refused seq) : (outcC c).2 = (decide (0 < seq) && !(c.doing != 0)) := by
  have h0 := h.st.ok.seq
  have hs := h.hsq
  have ho := h.st.ok.opn
  cases hsl : c.sl with
  | no =>
    have : seq = 0 := h.no.1 hsl
    rw [outcC_un (by rw [hsl]; exact fun _ h => by cases h)]
    simp [this]
  | opn =>
    have : ¬ c.doing = 0 := ho.2 hsl
    rw [outcC_un (by rw [hsl]; exact fun _ h => by cases h)]
    simp [this]
  | set o =>
    have h1 : ¬ seq = 0 := fun h' => by have := h.no.2 h'; rw [hsl] at this; cases this
    have h2 : c.doing = 0 := by
      by_cases hd : c.doing = 0
      · exact hd
      · have := ho.1 hd; rw [hsl] at this; cases this
    rw [outcC_set hsl]
    have : 0 < seq := by omega
    simp [this, h2]
theorem OnceSt.kind {d : CfgM} {n : Int} {k : Nat} {c : CliM} {e tried refused seq : Int} (h : OnceSt d n k c e tried refused seq) (ho : (outcC c).2 = true) : 1 ≤ (outcC c).1.kind ∧ (outcC c).1.kind ≤ 3 := by
  cases hsl : c.sl with
  | no => rw [outcC_un (by rw [hsl]; exact fun _ h => by cases h)] at ho; cases ho
  | opn => rw [outcC_un (by rw [hsl]; exact fun _ h => by cases h)] at ho; cases ho
  | set o => rw [outcC_set hsl]; exact h.out o hsl
theorem OnceSt.tryb {d : CfgM} {n : Int} {k : Nat} {c : CliM} {e tried refused seq : Int} (h : OnceSt d n k c e tried refused seq) : tried ≤ d.budget + 1 := by
  have := h.bud
  split at this <;> omega
theorem once_new {d : CfgM} (hd : okM d = true) (n : Int) : OnceSt d n 0 (newCli d n) 0 0 0 0 := by
  obtain ⟨_, _, q3, _, _⟩ := okM_cli hd
  refine ⟨new_cst hd n, rfl, rfl, ⟨Int.le_refl _, Int.le_refl _⟩, ?_, ⟨fun _ => rfl, fun _ => rfl⟩, fun o h => (by cases h), (by decide : (0 : Int) ≤ 1 + 0), fun h => absurd rfl h⟩
  split <;> omega
/-- The end of a call, however it comes. -/
theorem once_give {d : CfgM} {n : Int} {k : Nat} {c c' : CliM} {e tried refused seq : Int} (hst : CliSt d n k c') (hs : c'.seq = seq) (ht : c'.tries = tried) (hr : 0 ≤ refused ∧ refused ≤ tried) (hb : tried ≤ d.budget + 1) (hseq : ¬ seq = 0) (hch : c'.ch.epoch ≤ 1 + e)
    (hd : c'.doing = 0) {o : OutM} (ho : c'.sl = .set o) (hk : 1 ≤ o.kind ∧ o.kind ≤ 3) (hrej : o.kind = 2 → tried ≤ refused) (hc : (outcC c).2 = false) : OnceTo d n k c c' e tried refused seq false := by
  refine ⟨⟨hst, hs, ht, hr, by rw [if_neg (by omega)]; exact hb, ?_, ?_, hch, fun h => absurd hd h⟩, fun h => (by rw [hc] at h; cases h), fun _ _ h => ?_⟩
  · rw [ho]
    exact ⟨fun h => (by cases h), fun h => absurd h hseq⟩
  · rw [ho]
    intro o' h'
    cases h'
    exact hk
  · rw [outcC_set ho] at h
    exact hrej h
theorem giveO_kind (c : CliM) (r : Int) : (1 ≤ (giveO c r).kind ∧ (giveO c r).kind ≤ 3) ∧ ((giveO c r).kind = 2 → c.unsure = false) := by
  unfold giveO
  split
  · exact ⟨by decide, fun h => absurd h (by decide)⟩
  · rename_i h
    exact ⟨⟨by show (1 : Int) ≤ 2; decide, by show (2 : Int) ≤ 3; decide⟩, fun _ => by simpa using h⟩
/-- It goes on, or is given up. -/
theorem once_on {d : CfgM} {n : Int} {k : Nat} {c c0 : CliM} {e tried refused seq : Int} (r t : Int) (hst : CliSt d n k (onC c r t).1) (hs : c.seq = seq) (ht : c.tries = tried) (hr : 0 ≤ refused ∧ refused ≤ tried) (hb : tried ≤ d.budget + 1) (hbud : c.budget = d.budget) (hseq : ¬ seq = 0) (hch : c.ch.epoch ≤ 1 + e)
    (hsl : c.sl = .opn) (hc : (outcC c0).2 = false) (hu : c.unsure = false → tried ≤ refused) : OnceTo d n k c0 (onC c r t).1 e tried refused seq false := by
  revert hst
  unfold onC
  split
  · intro hst
    obtain ⟨g1, g2⟩ := giveO_kind c r
    exact once_give hst hs ht hr hb hseq hch rfl rfl g1 (fun h => hu (g2 h)) hc
  · rename_i hx
    split
    · intro hst
      obtain ⟨g1, g2⟩ := giveO_kind { c with bk := (tkF c.bk t).1 } r
      exact once_give hst hs ht hr hb hseq hch rfl rfl g1 (fun h => hu (g2 h)) hc
    · intro hst
      refine ⟨⟨hst, hs, ht, hr, ?_, ?_, ?_, hch, fun _ h => by rw [if_neg (by simp)]; have := hu h; omega⟩, fun h => (by rw [hc] at h; cases h), fun _ h => ?_⟩
      · rw [if_pos (.inr rfl)]; omega
      · show c.sl = .no ↔ seq = 0
        rw [hsl]
        exact ⟨fun h => (by cases h), fun h => absurd h hseq⟩
      · show ∀ o, c.sl = .set o → _
        rw [hsl]
        intro o h; cases h
      · rw [outcC_un (c := { c with bk := (tkF c.bk t).1, doing := 3, til := t + gapM c.tries }) (by show ∀ o, ¬ c.sl = .set o; rw [hsl]; exact fun _ h => by cases h)] at h
        cases h
theorem OnceSt.stay {d : CfgM} {n : Int} {k : Nat} {c c' : CliM} {e e' tried refused seq : Int} (h : OnceSt d n k c e tried refused seq) (hst : CliSt d n (k + 1) c') (hs : SameC c c') (ht : c'.tries = c.tries) (hch : c'.ch.epoch ≤ 1 + e') (hsl : c'.sl = c.sl) (hd : c'.doing = c.doing) (hu : c'.unsure = c.unsure) : OnceTo d n (k + 1) c c' e' tried refused seq false :=
  ⟨⟨hst, hs.seq.trans h.hsq, ht.trans h.htr, h.ref, by rw [hd]; exact h.bud, by rw [hsl]; exact h.no, by rw [hsl]; exact h.out, hch, by rw [hd, hu]; exact h.acc⟩, fun _ _ => outcC_eq hsl, fun h1 h2 => by rw [outcC_eq hsl, h1] at h2; cases h2⟩
theorem OnceSt.open {d : CfgM} {n : Int} {k : Nat} {c : CliM} {e tried refused seq : Int} (h : OnceSt d n k c e tried refused seq) (hd : ¬ c.doing = 0) : c.sl = .opn ∧ (outcC c).2 = false ∧ ¬ seq = 0 := by
  have ho := h.st.ok.opn.1 hd
  refine ⟨ho, by rw [outcC_un (by rw [ho]; exact fun _ h => by cases h)], fun h' => ?_⟩
  have := h.no.2 h'
  rw [ho] at this
  cases this
theorem once_tick {d : CfgM} {n : Int} {k : Nat} {c : CliM} {e tried refused seq : Int} (h : OnceSt d n k c e tried refused seq) {t : Int} (ht : 0 ≤ t ∧ t ≤ 1099511627776) : OnceTo d n (k + 1) c (tickC c t).1 e tried refused seq false := by
  have hst := (tick_cst h.st ht).mono (Nat.le_succ k)
  have hb := h.bud
  have hbt := h.tryb
  revert hst
  have stay : ∀ hst : CliSt d n (k + 1) c, OnceTo d n (k + 1) c c e tried refused seq false := fun hst => h.stay hst (.refl c) rfl h.ch rfl rfl rfl
  unfold tickC
  split
  · rename_i h2
    obtain ⟨o1, o2, o3⟩ := h.open (by omega)
    split
    · intro hst
      exact once_on (c := { c with unsure := true }) 0 t hst h.hsq h.htr h.ref hbt h.st.bud o3 h.ch o1 o2 (fun h => by cases h)
    · exact stay
  · split
    · rename_i h2 h1
      obtain ⟨o1, o2, o3⟩ := h.open (by omega)
      have ha := h.acc (by omega)
      rw [if_neg (by omega)] at ha
      rw [if_pos (.inl h1)] at hb
      split
      · exact stay
      · split
        · intro hst
          obtain ⟨g1, g2⟩ := giveO_kind c 2
          exact once_give hst h.hsq h.htr h.ref hbt o3 h.ch rfl rfl g1 (fun h => by have := ha (g2 h); omega) o2
        · intro hst
          refine ⟨⟨hst, h.hsq, h.htr, h.ref, by rw [if_pos (.inl rfl)]; omega, h.no, h.out, h.ch, fun _ hu => by rw [if_neg (by simp [askC])]; exact ha hu⟩, fun h' => (by rw [o2] at h'; cases h'), fun _ h' => ?_⟩
          rw [outcC_eq (c := c) (c' := (askC c t).1) rfl, o2] at h'
          cases h'
    · split
      · rename_i h2 h1 h3
        obtain ⟨o1, o2, o3⟩ := h.open (by omega)
        have ha := h.acc (by omega)
        rw [if_neg (by omega)] at ha
        rw [if_pos (.inr h3)] at hb
        split
        · intro hst
          refine ⟨⟨hst, h.hsq, h.htr, h.ref, by rw [if_pos (.inl rfl)]; omega, h.no, h.out, h.ch, fun _ hu => by rw [if_neg (by simp [askC])]; exact ha hu⟩, fun h' => (by rw [o2] at h'; cases h'), fun _ h' => ?_⟩
          rw [outcC_eq (c := c) (c' := (askC c t).1) rfl, o2] at h'
          cases h'
        · exact stay
      · exact stay
/-- A call is begun, or not. -/
theorem once_call {d : CfgM} {n : Int} {k : Nat} {c : CliM} {e tried refused seq : Int} (h : OnceSt d n k c e tried refused seq) (hd : okM d = true) (hk : k ≤ 1000000) (o : OpM) (cls dl now : Int) {r : (CliM × List SndM) × Int} (hr : callC c o cls dl now = r) :
    (r.2 = 63 ↔ ¬ c.doing = 0) ∧ ((r.2 = 0 ∧ ∃ x, r.1.2 = [x] ∧ ((x.fr.kind = 1 ∧ OnceTo d n (k + 1) c r.1.1 e 1 0 (seq + 1) true) ∨ (¬ x.fr.kind = 1 ∧ OnceTo d n (k + 1) c r.1.1 e 0 0 (seq + 1) true))) ∨ (¬ r.2 = 0 ∧ OnceTo d n (k + 1) c r.1.1 e tried refused seq false)) := by
  obtain ⟨_, _, q3, _, _⟩ := okM_cli hd
  have hst := call_cst h.st hk o cls dl now
  rw [hr] at hst
  have h0 := h.st.ok.seq
  have hs := h.hsq
  revert hr
  unfold callC
  split
  · rename_i hb
    intro hr; subst hr
    exact ⟨⟨fun _ => hb, fun _ => rfl⟩, .inr ⟨by simp, h.stay hst (.refl c) rfl h.ch rfl rfl rfl⟩⟩
  · rename_i hb
    split
    · intro hr; subst hr
      exact ⟨⟨fun h' => absurd h' (by simp), fun h' => absurd h' hb⟩, .inr ⟨by simp, h.stay hst (.refl c) rfl h.ch rfl rfl rfl⟩⟩
    · split
      · intro hr; subst hr
        refine ⟨⟨fun h' => absurd h' (by simp), fun h' => absurd h' hb⟩, .inl ⟨rfl, _, rfl, .inl ⟨rfl, ⟨hst, by show c.seq + 1 = _; omega, rfl, ⟨Int.le_refl _, by decide⟩, ?_, ?_, ?_, h.ch, fun _ _ => ?_⟩, fun _ h' => (by cases h'), fun _ h' => ?_⟩⟩⟩
        · split
          · rename_i hh; exact absurd hh (by show ¬ ((2 : Int) = 1 ∨ (2 : Int) = 3); decide)
          · omega
        · exact ⟨fun h' => (by cases h'), fun h' => absurd h' (by omega)⟩
        · intro o' h'; cases h'
        · split
          · decide
          · rename_i hh; exact absurd rfl hh
        · rw [outcC_un (c := (tryC (beginC c o cls dl) (nearC now)).1) (fun _ h' => by cases h')] at h'
          cases h'
      · intro hr; subst hr
        refine ⟨⟨fun h' => absurd h' (by simp), fun h' => absurd h' hb⟩, .inl ⟨rfl, _, rfl, .inr ⟨by simp [askS], ⟨hst, by show c.seq + 1 = _; omega, rfl, ⟨Int.le_refl _, Int.le_refl _⟩, ?_, ?_, ?_, h.ch, fun _ _ => ?_⟩, fun _ h' => (by cases h'), fun _ h' => ?_⟩⟩⟩
        · split <;> omega
        · exact ⟨fun h' => (by cases h'), fun h' => absurd h' (by omega)⟩
        · intro o' h'; cases h'
        · split <;> decide
        · rw [outcC_un (c := (askC (beginC c o cls dl) (nearC now)).1) (fun _ h' => by cases h')] at h'
          cases h'
theorem toC_one {c : CliM} {e a : Int} (hc : c.ch = ch1 e a) (hok : okCh (ch1 e a) = true) : toC c = a := by
  unfold toC memberM
  rw [hc]
  split
  · rw [if_pos ⟨hok, by simp, by simp⟩]; rfl
  · rw [if_pos ⟨hok, by simp, by simp⟩]; rfl
/-- A chain of one node is told, never an elder one. -/
theorem once_cfg {d : CfgM} {n : Int} {k : Nat} {c : CliM} {e tried refused seq : Int} (h : OnceSt d n k c e tried refused seq) (hk : k ≤ 1000000) {e' : Int} (he : e ≤ e' ∧ 0 ≤ e' ∧ e' ≤ 1000000) {a : Int} (ha : 0 ≤ a ∧ a < 6) {t : Int} (ht : 0 ≤ t ∧ t ≤ 1099511627776) {r : CliM × List SndM} (hr : takeC c (frCfg (ch1 (1 + e') a)) t = r) :
    (r.2 = [] ∧ OnceTo d n (k + 1) c r.1 e' tried refused seq false) ∨ ∃ x, r.2 = [x] ∧ OnceTo d n (k + 1) c r.1 e' (tried + 1) refused seq false ∧ x.fr.kind = 1 ∧ x.fr.client = n ∧ x.fr.seq = seq ∧ x.fr.try' = tried + 1 ∧ x.fr.epoch = 1 + e' ∧ x.to = a := by
  have hok := ch1_ok (e := 1 + e') (by omega) ha
  have hst := take_cst h.st hk (frCfg (ch1 (1 + e') a)) ht
  have hch := h.ch
  rw [hr] at hst
  have e1 := takeC_cfg c hok t
  rw [hr, if_neg (show ¬ (1 + e') < c.ch.epoch by omega)] at e1
  by_cases hd : c.doing = 1
  · rw [if_pos hd] at e1
    subst e1
    obtain ⟨o1, o2, o3⟩ := h.open (by omega)
    have hb := h.bud
    rw [if_pos (.inl hd)] at hb
    have hacc := h.acc (by omega)
    rw [if_neg (by omega)] at hacc
    have hrf := h.ref
    refine .inr ⟨_, rfl, ⟨⟨hst, h.hsq, by show c.tries + 1 = _; rw [h.htr], by omega, ?_, h.no, h.out, Int.le_refl _, fun _ hu => ?_⟩, fun h' => (by rw [o2] at h'; cases h'), fun _ h' => ?_⟩, rfl, h.st.id, h.hsq, by show c.tries + 1 = _; rw [h.htr], rfl, ?_⟩
    · split
      · rename_i hh; exact absurd hh (by show ¬ ((2 : Int) = 1 ∨ (2 : Int) = 3); decide)
      · omega
    · have := hacc hu
      split
      · omega
      · rename_i hh; exact absurd rfl hh
    · rw [outcC_eq (c := c) (c' := (tryC { c with ch := ch1 (1 + e') a } t).1) rfl, o2] at h'
      cases h'
    · exact toC_one (c := (tryC { c with ch := ch1 (1 + e') a } t).1) rfl hok
  · rw [if_neg hd] at e1
    subst e1
    exact .inl ⟨rfl, h.stay hst ⟨rfl, rfl, rfl, rfl, rfl, rfl, rfl, rfl⟩ rfl (Int.le_refl _) rfl rfl rfl⟩
/-- A reply. -/
theorem once_rep {d : CfgM} {n : Int} {k : Nat} {c : CliM} {e tried refused seq : Int} (h : OnceSt d n k c e tried refused seq) (hk : k ≤ 1000000) (i s : Int) (res : ResM) {t : Int} (ht : 0 ≤ t ∧ t ≤ 1099511627776) : OnceTo d n (k + 1) c (takeC c (frRep i s res) t).1 e tried refused seq false := by
  have hst := take_cst h.st hk (frRep i s res) ht
  have e1 : takeC c (frRep i s res) t = if ¬ c.doing = 0 ∧ i = c.id ∧ s = c.seq then (endC c ⟨1, 0, res.code, res.value, res.version, res.pos⟩, []) else (c, []) := by
    unfold takeC
    rw [if_neg (show ¬ (2 : Int) = 8 by decide), if_pos rfl]
  rw [e1] at hst ⊢
  split at hst
  · rename_i hx
    rw [if_pos hx]
    obtain ⟨o1, o2, o3⟩ := h.open hx.1
    exact once_give hst h.hsq h.htr h.ref h.tryb o3 h.ch rfl rfl ⟨by show (1 : Int) ≤ 1; decide, by show (1 : Int) ≤ 3; decide⟩ (fun h' => absurd h' (by show ¬ (1 : Int) = 2; decide)) o2
  · rename_i hx
    rw [if_neg hx]
    exact h.stay hst (.refl c) rfl h.ch rfl rfl rfl
/-- A try is refused; rf: how many were, then. -/
theorem once_ref {d : CfgM} {n : Int} {k : Nat} {c : CliM} {e tried refused seq : Int} (h : OnceSt d n k c e tried refused seq) (hk : k ≤ 1000000) (y r : Int) {rf : Int} (hrf : refused ≤ rf ∧ rf ≤ tried) (hup : ¬ c.doing = 0 → y = tried → ¬ (r = 6 ∨ r = 5 ∨ r = 7) → tried ≤ refused + 1 → tried ≤ rf) {t : Int} (ht : 0 ≤ t ∧ t ≤ 1099511627776) : OnceTo d n (k + 1) c (takeC c (frRef n seq y r) t).1 e tried rf seq false := by
  have hst := take_cst h.st hk (frRef n seq y r) ht
  have hr0 := h.ref
  have e1 : takeC c (frRef n seq y r) t = if c.doing = 2 ∧ n = c.id ∧ seq = c.seq ∧ y = c.tries then refC c r t else (c, []) := by
    unfold takeC
    rw [if_neg (show ¬ (3 : Int) = 8 by decide), if_neg (show ¬ (3 : Int) = 2 by decide), if_pos rfl]
  rw [e1] at hst ⊢
  split at hst
  · rename_i hx
    rw [if_pos hx]
    obtain ⟨o1, o2, o3⟩ := h.open (by omega)
    have hacc := h.acc (by omega)
    rw [if_pos hx.1] at hacc
    have ht' := h.htr
    have key : ¬ (r = 6 ∨ r = 5 ∨ r = 7) → c.unsure = false → tried ≤ rf := fun h1 h2 => hup (by omega) (by omega) h1 (hacc h2)
    revert hst
    unfold refC
    split
    · intro hst
      exact once_on (c := { c with unsure := true }) r t hst h.hsq h.htr ⟨by omega, hrf.2⟩ h.tryb h.st.bud o3 h.ch o1 o2 (fun h => by cases h)
    · rename_i h1
      split
      · intro hst
        obtain ⟨g1, g2⟩ := giveO_kind c r
        exact once_give hst h.hsq h.htr ⟨by omega, hrf.2⟩ h.tryb o3 h.ch rfl rfl g1 (fun h => key h1 (g2 h)) o2
      · intro hst
        exact once_on r t hst h.hsq h.htr ⟨by omega, hrf.2⟩ h.tryb h.st.bud o3 h.ch o1 o2 (key h1)
  · rename_i hx
    rw [if_neg hx]
    obtain ⟨⟨a1, a2, a3, a4, a5, a6, a7, a8, a9⟩, b1, b2⟩ := h.stay (c' := c) (e' := e) hst (.refl c) rfl h.ch rfl rfl rfl
    refine ⟨⟨a1, a2, a3, ⟨Int.le_trans hr0.1 hrf.1, hrf.2⟩, a5, a6, a7, a8, fun h1 h2 => Int.le_trans (a9 h1 h2) (Int.add_le_add_right hrf.1 _)⟩, b1, fun h1 h2 => ?_⟩
    rw [h1] at h2
    cases h2
end Go.Proofs.Ytghfigeepnbjaaa
