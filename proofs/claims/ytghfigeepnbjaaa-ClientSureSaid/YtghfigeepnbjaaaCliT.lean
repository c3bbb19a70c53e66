/-
  ClientTargets, plainly. No program in sight, no condition.
-/
import Derived.Test.YtghfigeepnbjaaaCliC
namespace Go.Proofs.Ytghfigeepnbjaaa
/-- A chain of two nodes; of one. -/
abbrev ch2 (e a b : Int) : ChM := ⟨e, [(a, 1), (b, 1)], -1⟩
abbrev ch1 (e a : Int) : ChM := ⟨e, [(a, 1)], -1⟩
theorem ch2_ok {e a b : Int} (he : 1 ≤ e ∧ e ≤ 1099511627776) (ha : 0 ≤ a ∧ a < 6) (hb : 0 ≤ b ∧ b < 6) (hab : ¬ a = b) : okCh (ch2 e a b) = true := by
  have h0 : atM (ch2 e a b).mem a = (0 : Nat) := atM_some (by simp) rfl (fun j hj => absurd hj (Nat.not_lt_zero j))
  have h1 : atM (ch2 e a b).mem b = (1 : Nat) := atM_some (by simp) rfl (fun j hj => by obtain rfl : j = 0 := (by omega); exact hab)
  have m0 : memOk (ch2 e a b) 0 = true := by
    have h0 : atM [(a, 1), (b, 1)] a = 0 := h0
    simp [memOk, h0]; omega
  have m1 : memOk (ch2 e a b) 1 = true := by
    have h1 : atM [(a, 1), (b, 1)] b = 1 := h1
    simp [memOk, h1]; omega
  have hs : memsOk (ch2 e a b) (ch2 e a b).mem.length = true := by
    show memsOk (ch2 e a b) (1 + 1) = true
    rw [memsOk_step, memsOk_step, m0, m1]
    rfl
  rw [okCh_end (by simp only; omega) (by simp only; omega) (by simp) (by simp) hs]
  simp
theorem ch1_ok {e a : Int} (he : 1 ≤ e ∧ e ≤ 1099511627776) (ha : 0 ≤ a ∧ a < 6) : okCh (ch1 e a) = true := by
  have h0 : atM (ch1 e a).mem a = (0 : Nat) := atM_some (by simp) rfl (fun j hj => absurd hj (Nat.not_lt_zero j))
  have m0 : memOk (ch1 e a) 0 = true := by
    have h0 : atM [(a, 1)] a = 0 := h0
    simp [memOk, h0]; omega
  have hs : memsOk (ch1 e a) (ch1 e a).mem.length = true := by
    show memsOk (ch1 e a) (0 + 1) = true
    rw [memsOk_step, m0]
    rfl
  rw [okCh_end (by simp only; omega) (by simp only; omega) (by simp) (by simp) hs]
  simp
/-- What is known of a client, whatever was done so far (k acts). -/
structure CliSt (d : CfgM) (n : Int) (k : Nat) (c : CliM) : Prop where
  ok : c.ok
  id : c.id = n
  cls : c.classes = d.quanta.length
  bud : c.budget = d.budget
  tmo : c.timeout = d.timeout
  seq : c.seq ≤ k
  tries : c.tries ≤ k
theorem CliSt.mono {d : CfgM} {n : Int} {k k' : Nat} {c : CliM} (h : CliSt d n k c) (hk : k ≤ k') : CliSt d n k' c := ⟨h.ok, h.id, h.cls, h.bud, h.tmo, by have := h.seq; omega, by have := h.tries; omega⟩
theorem new_cst {d : CfgM} (h : okM d = true) (n : Int) : CliSt d n 0 (newCli d n) := ⟨newCli_ok h n, rfl, rfl, rfl, rfl, Int.le_refl _, Int.le_refl _⟩
theorem call_cst {d : CfgM} {n : Int} {k : Nat} {c : CliM} (h : CliSt d n k c) (hk : k ≤ 1000000) (o : OpM) (cls dl now : Int) : CliSt d n (k + 1) (callC c o cls dl now).1.1 := by
  have hs := h.seq
  have ht := h.tries
  refine ⟨call_okC h.ok (by omega) o cls dl now, ?_, ?_, ?_, ?_, ?_, ?_⟩
  all_goals
    unfold callC
    repeat' split
    all_goals first
      | exact h.id
      | exact h.cls
      | exact h.bud
      | exact h.tmo
      | (simp only; omega)
      | (simp only [tryC, askC, beginC]; omega)
theorem take_cst {d : CfgM} {n : Int} {k : Nat} {c : CliM} (h : CliSt d n k c) (hk : k ≤ 1000000) (f : FrM) {t : Int} (ht : 0 ≤ t ∧ t ≤ 1099511627776) : CliSt d n (k + 1) (takeC c f t).1 := by
  have h1 := h.seq
  have h2 := h.tries
  obtain ⟨s1, s2, s3, s4, s5, _, _, _⟩ := take_same c f t
  have h3 := (take_tries c f t).1
  exact ⟨take_okC h.ok (by omega) f ht, s1.trans h.id, s2.trans h.cls, s4.trans h.bud, s3.trans h.tmo, by omega, by omega⟩
theorem tick_cst {d : CfgM} {n : Int} {k : Nat} {c : CliM} (h : CliSt d n k c) {t : Int} (ht : 0 ≤ t ∧ t ≤ 1099511627776) : CliSt d n k (tickC c t).1 := by
  obtain ⟨⟨s1, s2, s3, s4, s5, _, _, _⟩, s9, _⟩ := tick_same c t
  exact ⟨tick_okC h.ok ht, s1.trans h.id, s2.trans h.cls, s4.trans h.bud, s3.trans h.tmo, by rw [s5]; exact h.seq, by rw [s9]; exact h.tries⟩
/-- What is so of a client, its chains being of two nodes, and of what was asked for. -/
structure TargSt (d : CfgM) (n : Int) (k : Nat) (c : CliM) (op : OpM) : Prop where
  st : CliSt d n k c
  ch : c.ch = chN ∨ (okCh c.ch = true ∧ c.ch.mem.length = 2)
  busy : ¬ c.doing = 0 → c.op = op ∧ chkO op = 0
/-- What may be sent. -/
structure CallF (n : Int) (c : CliM) (op : OpM) (x : SndM) : Prop where
  kind : x.fr.kind = 1
  len : c.ch.mem.length = 2
  to : x.to = (c.ch.mem.getD (if op.kind = 1 then 1 else 0) (0, 0)).1
  epoch : x.fr.epoch = c.ch.epoch
  op : x.fr.op = op
  client : x.fr.client = n
  seq : x.fr.seq = c.seq
  try' : x.fr.try' = c.tries
def SentF (n : Int) (c : CliM) (op : OpM) (l : List SndM) : Prop := l = [] ∨ l = [askS] ∨ ∃ x, l = [x] ∧ CallF n c op x
theorem callS_f {n : Int} {c : CliM} {op : OpM} (hid : c.id = n) (hch : okCh c.ch = true ∧ c.ch.mem.length = 2) (hop : c.op = op ∧ chkO op = 0) : CallF n c op (callS c) := by
  refine ⟨rfl, hch.2, ?_, rfl, hop.1, hid, rfl, rfl⟩
  show toC c = _
  have hr : readsO c.op = decide (op.kind = 1) := by
    rw [hop.1]
    unfold readsO
    rw [hop.2]
    simp only [beq_self_eq_true, Bool.and_true]
    rfl
  unfold toC memberM
  rw [hr]
  by_cases h1 : op.kind = 1
  · rw [if_pos (decide_eq_true h1), if_pos ⟨hch.1, by omega, by omega⟩, if_pos h1, hch.2]
    rfl
  · rw [if_neg (by simp [h1]), if_pos ⟨hch.1, by omega, by omega⟩, if_neg h1]
    rfl
theorem targ_call {d : CfgM} {n : Int} {k : Nat} {c : CliM} {op : OpM} (h : TargSt d n k c op) (hk : k ≤ 1000000) (o : OpM) (dl now : Int) {r : (CliM × List SndM) × Int} (hr : callC c o 0 dl now = r) :
    (r.2 = 0 ∧ TargSt d n (k + 1) r.1.1 o ∧ r.1.1.ch = c.ch ∧ SentF n r.1.1 o r.1.2) ∨ (¬ r.2 = 0 ∧ r.1.1 = c ∧ r.1.2 = []) := by
  have hst := call_cst h.st hk o 0 dl now
  rw [hr] at hst
  revert hr
  unfold callC
  split
  · intro hr; subst hr; exact .inr ⟨by simp, rfl, rfl⟩
  · split
    · intro hr; subst hr; exact .inr ⟨by simp, rfl, rfl⟩
    · rename_i hx
      have hchk : chkO o = 0 := by
        by_cases h : chkO o = 0
        · exact h
        · exact absurd (.inl h) hx
      split
      · rename_i he
        intro hr; subst hr
        have hch : okCh c.ch = true ∧ c.ch.mem.length = 2 := by
          rcases h.ch with h' | h'
          · rw [h'] at he; exact absurd he (by decide)
          · exact h'
        refine .inl ⟨rfl, ⟨hst, .inr hch, fun _ => ⟨rfl, hchk⟩⟩, rfl, .inr (.inr ⟨_, rfl, ?_⟩)⟩
        exact callS_f (c := (tryC (beginC c o 0 dl) (nearC now)).1) h.st.id hch ⟨rfl, hchk⟩
      · intro hr; subst hr
        exact .inl ⟨rfl, ⟨hst, h.ch, fun _ => ⟨rfl, hchk⟩⟩, rfl, .inr (.inl rfl)⟩
theorem on_sent (c : CliM) (r t : Int) : ((onC c r t).2 = [] ∨ (onC c r t).2 = [askS]) ∧ ((onC c r t).1.doing = 0 ∨ ¬ c.doing = 0 ∨ (onC c r t).1.doing = 3) := by
  unfold onC
  repeat' split
  · exact ⟨.inr rfl, .inl rfl⟩
  · exact ⟨.inr rfl, .inl rfl⟩
  · exact ⟨.inl rfl, .inr (.inr rfl)⟩
theorem ref_sent (c : CliM) (r t : Int) : (refC c r t).2 = [] ∨ (refC c r t).2 = [askS] := by
  unfold refC
  split
  · exact (on_sent _ r t).1
  · split
    · exact .inr rfl
    · exact (on_sent _ r t).1
theorem tick_sent (c : CliM) (t : Int) : (tickC c t).2 = [] ∨ (tickC c t).2 = [askS] := by
  unfold tickC
  repeat' split
  all_goals first
    | exact .inl rfl
    | exact .inr rfl
    | exact (on_sent _ 0 t).1
theorem tick_doing {c : CliM} (t : Int) (h : ¬ (tickC c t).1.doing = 0) : ¬ c.doing = 0 := by
  intro hd
  apply h
  unfold tickC
  rw [if_neg (by omega), if_neg (by omega), if_neg (by omega)]
  exact hd
theorem targ_tick {d : CfgM} {n : Int} {k : Nat} {c : CliM} {op : OpM} (h : TargSt d n k c op) {t : Int} (ht : 0 ≤ t ∧ t ≤ 1099511627776) :
    TargSt d n (k + 1) (tickC c t).1 op ∧ (tickC c t).1.ch = c.ch ∧ SentF n (tickC c t).1 op (tickC c t).2 := by
  obtain ⟨s, s9, s10⟩ := tick_same c t
  refine ⟨⟨(tick_cst h.st ht).mono (Nat.le_succ k), by rw [s10]; exact h.ch, fun hd => by rw [s.op]; exact h.busy (tick_doing t hd)⟩, s10, ?_⟩
  rcases tick_sent c t with h | h
  · exact .inl h
  · exact .inr (.inl h)
theorem takeC_cfg (c : CliM) {ch : ChM} (hch : okCh ch = true) (t : Int) : takeC c (frCfg ch) t = if ch.epoch < c.ch.epoch then (c, []) else if c.doing = 1 then tryC { c with ch := ch } t else ({ c with ch := ch }, []) := by
  unfold takeC
  rw [if_pos rfl]
  by_cases hx : ch.epoch < c.ch.epoch
  · rw [if_pos (.inr hx), if_pos hx]
  · rw [if_neg (fun h' => h'.elim (fun h' => by rw [hch] at h'; cases h') hx), if_neg hx]
/-- A chain is told. -/
theorem targ_cfg {d : CfgM} {n : Int} {k : Nat} {c : CliM} {op : OpM} (h : TargSt d n k c op) (hk : k ≤ 1000000) {ch : ChM} (hch : okCh ch = true ∧ ch.mem.length = 2) {t : Int} (ht : 0 ≤ t ∧ t ≤ 1099511627776) :
    TargSt d n (k + 1) (takeC c (frCfg ch) t).1 op ∧ (takeC c (frCfg ch) t).1.ch = (if c.ch.epoch ≤ ch.epoch then ch else c.ch) ∧ SentF n (takeC c (frCfg ch) t).1 op (takeC c (frCfg ch) t).2 := by
  have hst := take_cst h.st hk (frCfg ch) ht
  rw [takeC_cfg c hch.1 t] at hst ⊢
  by_cases hx : ch.epoch < c.ch.epoch
  · rw [if_neg (show ¬ c.ch.epoch ≤ ch.epoch by omega)]
    rw [if_pos hx] at hst ⊢
    exact ⟨⟨hst, h.ch, h.busy⟩, rfl, .inl rfl⟩
  · rw [if_pos (show c.ch.epoch ≤ ch.epoch by omega)]
    rw [if_neg hx] at hst ⊢
    by_cases hd : c.doing = 1
    · rw [if_pos hd] at hst ⊢
      have hb := h.busy (by omega)
      exact ⟨⟨hst, .inr hch, fun _ => hb⟩, rfl, .inr (.inr ⟨_, rfl, callS_f (c := (tryC { c with ch := ch } t).1) h.st.id hch hb⟩)⟩
    · rw [if_neg hd] at hst ⊢
      exact ⟨⟨hst, .inr hch, h.busy⟩, rfl, .inl rfl⟩
/-- A try is refused. -/
theorem targ_ref {d : CfgM} {n : Int} {k : Nat} {c : CliM} {op : OpM} (h : TargSt d n k c op) (hk : k ≤ 1000000) (i s y r : Int) {t : Int} (ht : 0 ≤ t ∧ t ≤ 1099511627776) :
    TargSt d n (k + 1) (takeC c (frRef i s y r) t).1 op ∧ (takeC c (frRef i s y r) t).1.ch = c.ch ∧ SentF n (takeC c (frRef i s y r) t).1 op (takeC c (frRef i s y r) t).2 := by
  have hst := take_cst h.st hk (frRef i s y r) ht
  have hs := take_same c (frRef i s y r) t
  have e : takeC c (frRef i s y r) t = if c.doing = 2 ∧ i = c.id ∧ s = c.seq ∧ y = c.tries then refC c r t else (c, []) := by
    unfold takeC
    rw [if_neg (show ¬ (3 : Int) = 8 by decide), if_neg (show ¬ (3 : Int) = 2 by decide), if_pos rfl]
  rw [e] at hst hs ⊢
  split at hst
  · rename_i hx
    rw [if_pos hx] at hs ⊢
    have hr := ref_same c r t
    refine ⟨⟨hst, by rw [hr.2.2]; exact h.ch, fun _ => by rw [hs.op]; exact h.busy (by omega)⟩, hr.2.2, ?_⟩
    rcases ref_sent c r t with h | h
    · exact .inl h
    · exact .inr (.inl h)
  · rename_i hx
    rw [if_neg hx]
    exact ⟨⟨hst, h.ch, h.busy⟩, rfl, .inl rfl⟩
end Go.Proofs.Ytghfigeepnbjaaa
