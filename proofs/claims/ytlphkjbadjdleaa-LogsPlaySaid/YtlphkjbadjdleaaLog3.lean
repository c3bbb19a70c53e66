/-
  The log: Append of what is taken. No condition.
-/
import Derived.Test.YtlphkjbadjdleaaLog2
namespace Go.Proofs.Ytlphkjbadjdleaa
/-- What a log lies in behind an entry that was taken. -/
abbrev logHp (l : LogM) : List HE := [.blk 85 (.p 1 0 :: .os 4 l.ents.length :: .os 5 l.ress.length :: laV l.la), kvE l.cs, .none, .none, .own 30 7 l.ents.length (entF l.ents), .own 36 4 l.ress.length (resF l.ress)]
set_option maxRecDepth 100000 in
set_option maxHeartbeats 4000000 in
theorem logAppend_ok (l : LogM) (hl : l.ok) (index client seq : Int) (op : OpM) (h1 : 0 ≤ client ∧ client < 6) (hs : 1 ≤ seq) (h2 : chkO op = 0 ∧ ¬ op.kind = 1) (h3 : l.ents.length < 4096) (h4 : index = l.ents.length + 1) (h5 : (l.la client.toNat).1 < seq) :
    Spec Try.prog 19 [.p 0 0, entS' index client seq op] (logH l) fun s H1 => s = .tup [resS (logRes l ⟨index, client, seq, op⟩), .v (.int .i64 0)] ∧ H1 = logHp (logPut l ⟨index, client, seq, op⟩) := by
  have hr : (op.kind == 1 && chkO op == 0) = false := by simp; intro h; exact absurd h h2.2
  have hl1 := hl.1
  refine spec_x Try.func19 rfl 4 rfl rfl fun w0 U => ?_
  have hc : client = 0 ∨ client = 1 ∨ client = 2 ∨ client = 3 ∨ client = 4 ∨ client = 5 := by omega
  clear h1
  rcases hc with rfl | rfl | rfl | rfl | rfl | rfl
  all_goals
    first | (change (l.la 0).1 < seq at h5) | (change (l.la 1).1 < seq at h5) | (change (l.la 2).1 < seq at h5) | (change (l.la 3).1 < seq at h5) | (change (l.la 4).1 < seq at h5) | (change (l.la 5).1 < seq at h5)
    repeat' ((conv => whnf); first
        | (apply ord_one tabOK 0 7 [0, 1, 2, 3, 4, 5, 6, 7, 8, 9, 10] [1, 2, 3, 4, 5, 6, 7, 0, 8, 9, 10] (show _ = 11 from rfl) (by kernel_rfl) (by kernel_rfl) (by kernel_rfl) (by kernel_rfl))
        | with_reducible refine Br.tt ?_
        | with_reducible refine Br.ff ?_
        | with_reducible refine Br.nt ?_
        | with_reducible refine Br.nf ?_
        | with_reducible refine Br.eeI ?_
        | with_reducible refine Br.nnI ?_
        | refine Br.yes (by decide) ?_
        | refine Br.no (by decide) ?_
        | refine Need.go rfl ?_
        | refine QuiD.quiet (by kernel_rfl) ?_
        | refine draw_go tabOK (by kernel_rfl) ?_
        | refine Need.go ⟨rfl, rfl⟩ ?_
        | refine Need.go ⟨⟨rfl, rfl, rfl⟩, rfl⟩ ?_
        | (with_reducible refine Br.dec (fun h => ?_) (fun h => ?_) <;> first | (exfalso; omega) | skip)
        | (with_reducible refine Br.eqI (fun h => ?_) (fun h => ?_) <;> first | (exfalso; omega) | skip)
        | (with_reducible refine Br.neI (fun h => ?_) (fun h => ?_) <;> first | (exfalso; omega) | skip)
        | (with_reducible refine Br.eqS (fun h => ?_) (fun h => ?_) <;> first | (exfalso; omega) | skip)
        | (with_reducible refine Br.neS (fun h => ?_) (fun h => ?_) <;> first | (exfalso; omega) | skip)
        | (with_reducible refine Br.nd (fun h => ?_) (fun h => ?_) <;> first | (exfalso; omega) | skip)
        | refine Ar.i64 (by omega) (by omega) ?_
        | refine call_inlineL (f := 50) Try.func50 rfl ?_
        | (refine call_mem (f := 54) (args := [.agg [.v (.int .i64 op.kind), .v (S op.key), .v (S op.value), .v (.int .i64 op.version)]]) (V := .int .i64 0) ?_ ?_; exact fun ρ w h => check_at op 0 w h2.1)
        | (refine quiet_mem (f := 54) (args := [.agg [.v (.int .i64 op.kind), .v (S op.key), .v (S op.value), .v (.int .i64 op.version)]]) (V := .int .i64 0) ?_ ?_; exact fun ρ w h => check_at op 0 w h2.1)
        | (refine seg_mem (f := 54) (args := [.agg [.v (.int .i64 op.kind), .v (S op.key), .v (S op.value), .v (.int .i64 op.version)]]) (V := .int .i64 0) ?_ ?_; exact fun ρ w h => check_at op 0 w h2.1)
        | (refine call_mem (f := 28) (args := [.agg [.v (.int .i64 op.kind), .v (S op.key), .v (S op.value), .v (.int .i64 op.version)]]) (V := .bool false) ?_ ?_; exact fun ρ w h => hr ▸ reads_any op w)
        | (refine quiet_mem (f := 28) (args := [.agg [.v (.int .i64 op.kind), .v (S op.key), .v (S op.value), .v (.int .i64 op.version)]]) (V := .bool false) ?_ ?_; exact fun ρ w h => hr ▸ reads_any op w)
        | (refine seg_mem (f := 28) (args := [.agg [.v (.int .i64 op.kind), .v (S op.key), .v (S op.value), .v (.int .i64 op.version)]]) (V := .bool false) ?_ ?_; exact fun ρ w h => hr ▸ reads_any op w)
        | refine kvApply_n 1 l.cs index op rfl ?_
        | exact .inl ⟨rfl, rfl⟩
        | refine Need.go (by first | omega | decide | (simp <;> omega) | fail) ?_
        | refine Need.go (by first | (simp [Value.oneCell'] <;> omega) | fail) ?_
        | refine Need.go ⟨rfl, by omega, getD_one rfl rfl⟩ ?_
        | refine Need.go ⟨rfl, by omega, fun _ _ _ _ => rfl⟩ ?_
        | (refine Br.both (fun h => ?_) (fun h => ?_) <;> first | (exfalso; omega) | skip))
    all_goals (conv => whnf)
    refine ⟨_, _, ⟨rfl, rfl⟩, by simp, trivial, ⟨[some 0, some 1, some 2, some 3, some 7, some 9], ⟨by decide, rfl⟩, ?_, ?_⟩⟩
    all_goals repeat' (first | exact .inl ⟨rfl, congrArg (SV.os 7) (List.length_append)⟩ | exact .inl ⟨rfl, congrArg (SV.os 9) (List.length_append)⟩ | exact ⟨_, rfl, ⟨rfl, rfl, by simp [logPut]⟩, fun r c hr hc => rowsF_snoc entC entZ 7 l.ents ⟨index, _, seq, op⟩ r c (by simpa [logPut] using hr) hc⟩ | exact ⟨_, rfl, ⟨rfl, rfl, by simp [logPut]⟩, fun r c hr hc => rowsF_snoc resC resZ 4 l.ress (applyM l.cs index op).2 r c (by simpa [logPut] using hr) hc⟩ | exact trivial | exact .inl ⟨rfl, rfl⟩ | rfl | exact .inr ⟨_, rfl, rfl, rfl⟩ | exact ⟨_, rfl, trivial⟩ | exact ⟨_, rfl, rfl⟩ | exact ⟨_, rfl, ⟨rfl, rfl, rfl⟩, fun _ _ _ _ => rfl⟩ | exact ⟨_, rfl, ⟨rfl, rfl, .inl rfl⟩, rfl⟩ | exact ⟨_, rfl, ⟨rfl, rfl, .inr rfl⟩, rfl⟩ | exact ⟨_, rfl, ⟨rfl, rfl, rfl, rfl, rfl⟩, rfl⟩ | exact ⟨_, rfl, ⟨rfl, rfl⟩, fun _ => Iff.rfl⟩ | refine ⟨_, rfl, rfl, ?_⟩ | refine ⟨_, rfl, ⟨rfl, rfl, rfl⟩, ?_⟩ | refine And.intro ?_ ?_)
theorem logAppend_yes (l : LogM) (hl : l.ok) (e : EntM) (he : logErr l e = 0) : Spec Try.prog 19 [.p 0 0, entS e] (logH l) fun s H1 => s = .tup [resS (logRes l e), .v (.int .i64 0)] ∧ H1 = logHp (logPut l e) := by
  obtain ⟨⟨a1, a2, a3, a4, a5⟩, a6, a7, a8⟩ := logErr_0.1 he
  exact logAppend_ok l hl e.index e.client e.seq e.op ⟨a1, a2⟩ a3 ⟨a4, a5⟩ a6 a7 a8
end Go.Proofs.Ytlphkjbadjdleaa
