/-
  ClientTargets, plainly. No program in sight, no condition.
-/
import Derived.Test.YtghfigeepnbjaaaGreatCliC
namespace Go.Proofs.YtghfigeepnbjaaaGreat
/-- A chain of two nodes; of one. -/
abbrev ch2 (e a b : Int) : ChM := ⟨e, [(a, 1), (b, 1)], -1⟩
abbrev ch1 (e a : Int) : ChM := ⟨e, [(a, 1)], -1⟩
/-- What is known of a client, whatever was done so far (k acts). -/
structure CliSt (d : CfgM) (n : Int) (k : Nat) (c : CliM) : Prop where
  ok : c.ok
  id : c.id = n
  cls : c.classes = d.quanta.length
  bud : c.budget = d.budget
  tmo : c.timeout = d.timeout
  seq : c.seq ≤ k
  tries : c.tries ≤ k
theorem CliSt.mono {d : CfgM} {n : Int} {k k' : Nat} {c : CliM} (h : CliSt d n k c) (hk : k ≤ k') : CliSt d n k' c := ⟨h.ok, h.id, h.cls, h.bud, h.tmo, by have := h.seq; omega, by have := h.tries; omega⟩
theorem new_cst {d : CfgM} (h : okM d = true) (n : Int) : CliSt d n 0 (newCli d n) := ⟨newCli_ok h n, rfl, rfl, rfl, rfl, Int.le_refl _, Int.le_refl _⟩
theorem call_cst {d : CfgM} {n : Int} {k : Nat} {c : CliM} (h : CliSt d n k c) (hk : k ≤ 1000000) (o : OpM) (cls dl now : Int) : CliSt d n (k + 1) (callC c o cls dl now).1.1 := by
  have hs := h.seq
  have ht := h.tries
  refine ⟨call_okC h.ok (by omega) o cls dl now, ?_, ?_, ?_, ?_, ?_, ?_⟩
  all_goals
    unfold callC
    repeat' split
    all_goals first
      | exact h.id
      | exact h.cls
      | exact h.bud
      | exact h.tmo
      | (simp only; omega)
      | (simp only [tryC, askC, beginC]; omega)
theorem take_cst {d : CfgM} {n : Int} {k : Nat} {c : CliM} (h : CliSt d n k c) (hk : k ≤ 1000000) (f : FrM) {t : Int} (ht : 0 ≤ t ∧ t ≤ 1099511627776) : CliSt d n (k + 1) (takeC c f t).1 := by
  have h1 := h.seq
  have h2 := h.tries
  obtain ⟨s1, s2, s3, s4, s5, _, _, _⟩ := take_same c f t
  have h3 := (take_tries c f t).1
  exact ⟨take_okC h.ok (by omega) f ht, s1.trans h.id, s2.trans h.cls, s4.trans h.bud, s3.trans h.tmo, by omega, by omega⟩
theorem tick_cst {d : CfgM} {n : Int} {k : Nat} {c : CliM} (h : CliSt d n k c) {t : Int} (ht : 0 ≤ t ∧ t ≤ 1099511627776) : CliSt d n k (tickC c t).1 := by
  obtain ⟨⟨s1, s2, s3, s4, s5, _, _, _⟩, s9, _⟩ := tick_same c t
  exact ⟨tick_okC h.ok ht, s1.trans h.id, s2.trans h.cls, s4.trans h.bud, s3.trans h.tmo, by rw [s5]; exact h.seq, by rw [s9]; exact h.tries⟩
/-- What is so of a client, its chains being of two nodes, and of what was asked for. -/
structure TargSt (d : CfgM) (n : Int) (k : Nat) (c : CliM) (op : OpM) : Prop where
  st : CliSt d n k c
  ch : c.ch = chN ∨ (okCh c.ch = true ∧ c.ch.mem.length = 2)
  busy : ¬ c.doing = 0 → c.op = op ∧ chkO op = 0
/-- What may be sent. -/
structure CallF (n : Int) (c : CliM) (op : OpM) (x : SndM) : Prop where
  kind : x.fr.kind = 1
  len : c.ch.mem.length = 2
  to : x.to = (c.ch.mem.getD (if op.kind = 1 then 1 else 0) (0, 0)).1
  epoch : x.fr.epoch = c.ch.epoch
  op : x.fr.op = op
  client : x.fr.client = n
  seq : x.fr.seq = c.seq
  try' : x.fr.try' = c.tries
def SentF (n : Int) (c : CliM) (op : OpM) (l : List SndM) : Prop := l = [] ∨ l = [askS] ∨ ∃ x, l = [x] ∧ CallF n c op x
theorem on_sent (c : CliM) (r t : Int) : ((onC c r t).2 = [] ∨ (onC c r t).2 = [askS]) ∧ ((onC c r t).1.doing = 0 ∨ ¬ c.doing = 0 ∨ (onC c r t).1.doing = 3) := by
  unfold onC
  repeat' split
  · exact ⟨.inr rfl, .inl rfl⟩
  · exact ⟨.inr rfl, .inl rfl⟩
  · exact ⟨.inl rfl, .inr (.inr rfl)⟩
theorem ref_sent (c : CliM) (r t : Int) : (refC c r t).2 = [] ∨ (refC c r t).2 = [askS] := by
  unfold refC
  split
  · exact (on_sent _ r t).1
  · split
    · exact .inr rfl
    · exact (on_sent _ r t).1
theorem tick_sent (c : CliM) (t : Int) : (tickC c t).2 = [] ∨ (tickC c t).2 = [askS] := by
  unfold tickC
  repeat' split
  all_goals first
    | exact .inl rfl
    | exact .inr rfl
    | exact (on_sent _ 0 t).1
theorem tick_doing {c : CliM} (t : Int) (h : ¬ (tickC c t).1.doing = 0) : ¬ c.doing = 0 := by
  intro hd
  apply h
  unfold tickC
  rw [if_neg (by omega), if_neg (by omega), if_neg (by omega)]
  exact hd
end Go.Proofs.YtghfigeepnbjaaaGreat
