/-
  A log: what it knows. No program in sight but for types, no condition.
-/
import Derived.Test.YtlphkjbadjdleaaKv2
namespace Go.Proofs.Ytlphkjbadjdleaa
/-- A log. -/
structure LogM where
  cs : List KC
  ents : List EntM
  ress : List ResM
  la : Nat → Int × Int
def logZ : LogM := ⟨[], [], [], fun _ => (0, 0)⟩
def LogM.ok (l : LogM) : Prop := l.ress.length = l.ents.length ∧ l.ents.length ≤ 4096
theorem logZ_ok : logZ.ok := ⟨rfl, by simp [logZ]⟩
abbrev entF (l : List EntM) : Nat → Nat → Value := rowsF entC entZ l
abbrev resF (l : List ResM) : Nat → Nat → Value := rowsF resC resZ l
abbrev laV (la : Nat → Int × Int) : List SV := [.v (.int .i64 (la 0).1), .v (.int .i64 (la 0).2), .v (.int .i64 (la 1).1), .v (.int .i64 (la 1).2), .v (.int .i64 (la 2).1), .v (.int .i64 (la 2).2), .v (.int .i64 (la 3).1), .v (.int .i64 (la 3).2), .v (.int .i64 (la 4).1), .v (.int .i64 (la 4).2), .v (.int .i64 (la 5).1), .v (.int .i64 (la 5).2)]
/-- What a log lies in; the first of its blocks has the name i. -/
abbrev logHi (i : Nat) (l : LogM) : List HE := [.blk 85 (.p (i + 1) 0 :: .os (i + 2) l.ents.length :: .os (i + 3) l.ress.length :: laV l.la), kvE l.cs, .own 30 7 l.ents.length (entF l.ents), .own 36 4 l.ress.length (resF l.ress)]
abbrev logH (l : LogM) : List HE := logHi 0 l
/-- Why an entry is refused. -/
def logErr (l : LogM) (e : EntM) : Int :=
  if e.client < 0 ∨ 6 ≤ e.client ∨ e.seq < 1 ∨ ¬ chkO e.op = 0 ∨ e.op.kind = 1 then 2
  else if 4096 ≤ l.ents.length then 60
  else if ¬ e.index = l.ents.length + 1 then 70
  else if e.seq ≤ (l.la e.client.toNat).1 then 71
  else 0
/-- What an entry that is taken does. -/
def logRes (l : LogM) (e : EntM) : ResM := (applyM l.cs e.index e.op).2
def logPut (l : LogM) (e : EntM) : LogM := ⟨(applyM l.cs e.index e.op).1, l.ents ++ [e], l.ress ++ [logRes l e], fun i => if i = e.client.toNat then (e.seq, e.index) else l.la i⟩
theorem logErr_0 {l : LogM} {e : EntM} : logErr l e = 0 ↔ ((0 ≤ e.client ∧ e.client < 6 ∧ 1 ≤ e.seq ∧ chkO e.op = 0 ∧ ¬ e.op.kind = 1) ∧ l.ents.length < 4096 ∧ e.index = l.ents.length + 1 ∧ (l.la e.client.toNat).1 < e.seq) := by
  unfold logErr
  repeat' split
  all_goals (constructor <;> intro h <;> omega)
theorem logPut_ok {l : LogM} (h : l.ok) {e : EntM} (he : logErr l e = 0) : (logPut l e).ok := by
  have := logErr_0.1 he
  refine ⟨?_, ?_⟩
  · simp [logPut, h.1]
  · simp [logPut]; omega
end Go.Proofs.Ytlphkjbadjdleaa
