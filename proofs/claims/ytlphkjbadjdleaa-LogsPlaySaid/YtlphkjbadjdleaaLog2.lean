/-
  The log: Append. No condition.
-/
import Derived.Test.YtlphkjbadjdleaaOpR
import Derived.Test.YtlphkjbadjdleaaLog1
namespace Go.Proofs.Ytlphkjbadjdleaa
theorem logErr_2 {l : LogM} {e : EntM} (h : e.client < 0 ∨ 6 ≤ e.client ∨ e.seq < 1 ∨ ¬ chkO e.op = 0 ∨ e.op.kind = 1) : logErr l e = 2 := if_pos h
theorem logErr_60 {l : LogM} {e : EntM} (h : ¬ (e.client < 0 ∨ 6 ≤ e.client ∨ e.seq < 1 ∨ ¬ chkO e.op = 0 ∨ e.op.kind = 1)) (h1 : 4096 ≤ l.ents.length) : logErr l e = 60 := by
  unfold logErr; rw [if_neg h, if_pos h1]
theorem logErr_70 {l : LogM} {e : EntM} (h : ¬ (e.client < 0 ∨ 6 ≤ e.client ∨ e.seq < 1 ∨ ¬ chkO e.op = 0 ∨ e.op.kind = 1)) (h1 : ¬ 4096 ≤ l.ents.length) (h2 : ¬ e.index = l.ents.length + 1) : logErr l e = 70 := by
  unfold logErr; rw [if_neg h, if_neg h1, if_pos h2]
theorem logErr_71 {l : LogM} {e : EntM} (h : ¬ (e.client < 0 ∨ 6 ≤ e.client ∨ e.seq < 1 ∨ ¬ chkO e.op = 0 ∨ e.op.kind = 1)) (h1 : ¬ 4096 ≤ l.ents.length) (h2 : e.index = l.ents.length + 1) (h3 : e.seq ≤ (l.la e.client.toNat).1) : logErr l e = 71 := by
  unfold logErr; rw [if_neg h, if_neg h1, if_neg (by omega), if_pos h3]
abbrev entS' (index client seq : Int) (op : OpM) : SV := .agg [.v (.int .i64 index), .v (.int .i64 client), .v (.int .i64 seq), .v (.int .i64 op.kind), .v (S op.key), .v (S op.value), .v (.int .i64 op.version)]
set_option maxRecDepth 100000 in
set_option maxHeartbeats 4000000 in
theorem logAppend_71 (l : LogM) (index client seq : Int) (op : OpM) (h1 : 0 ≤ client ∧ client < 6) (hs : 1 ≤ seq) (h2 : chkO op = 0 ∧ ¬ op.kind = 1) (h3 : l.ents.length < 4096) (h4 : index = l.ents.length + 1) (h5 : seq ≤ (l.la client.toNat).1) :
    Spec Try.prog 19 [.p 0 0, entS' index client seq op] (logH l) fun s H1 => s = .tup [resS resZ, .v (.int .i64 71)] ∧ H1 = logH l := by
  have hr : (op.kind == 1 && chkO op == 0) = false := by simp; intro h; exact absurd h h2.2
  refine spec_x Try.func19 rfl 4 rfl rfl fun w0 U => ?_
  have hc : client = 0 ∨ client = 1 ∨ client = 2 ∨ client = 3 ∨ client = 4 ∨ client = 5 := by omega
  clear h1
  rcases hc with rfl | rfl | rfl | rfl | rfl | rfl
  all_goals
    replace h5 := id h5
    first | (change seq ≤ (l.la 0).1 at h5) | (change seq ≤ (l.la 1).1 at h5) | (change seq ≤ (l.la 2).1 at h5) | (change seq ≤ (l.la 3).1 at h5) | (change seq ≤ (l.la 4).1 at h5) | (change seq ≤ (l.la 5).1 at h5)
    repeat' ((conv => whnf); first
        | with_reducible refine Br.tt ?_
        | with_reducible refine Br.ff ?_
        | with_reducible refine Br.nt ?_
        | with_reducible refine Br.nf ?_
        | with_reducible refine Br.eeI ?_
        | with_reducible refine Br.nnI ?_
        | refine Br.yes (by decide) ?_
        | refine Br.no (by decide) ?_
        | refine Need.go rfl ?_
        | refine QuiD.quiet (by kernel_rfl) ?_
        | refine draw_go tabOK (by kernel_rfl) ?_
        | refine Need.go ⟨rfl, rfl⟩ ?_
        | refine Need.go ⟨⟨rfl, rfl, rfl⟩, rfl⟩ ?_
        | (with_reducible refine Br.dec (fun h => ?_) (fun h => ?_) <;> first | (exfalso; omega) | skip)
        | (with_reducible refine Br.eqI (fun h => ?_) (fun h => ?_) <;> first | (exfalso; omega) | skip)
        | (with_reducible refine Br.neI (fun h => ?_) (fun h => ?_) <;> first | (exfalso; omega) | skip)
        | (with_reducible refine Br.eqS (fun h => ?_) (fun h => ?_) <;> first | (exfalso; omega) | skip)
        | (with_reducible refine Br.neS (fun h => ?_) (fun h => ?_) <;> first | (exfalso; omega) | skip)
        | (with_reducible refine Br.nd (fun h => ?_) (fun h => ?_) <;> first | (exfalso; omega) | skip)
        | refine Ar.i64 (by omega) (by omega) ?_
        | refine call_inlineL (f := 50) Try.func50 rfl ?_
        | (refine call_mem (f := 54) (args := [.agg [.v (.int .i64 op.kind), .v (S op.key), .v (S op.value), .v (.int .i64 op.version)]]) (V := .int .i64 0) ?_ ?_; exact fun ρ w h => check_at op 0 w h2.1)
        | (refine quiet_mem (f := 54) (args := [.agg [.v (.int .i64 op.kind), .v (S op.key), .v (S op.value), .v (.int .i64 op.version)]]) (V := .int .i64 0) ?_ ?_; exact fun ρ w h => check_at op 0 w h2.1)
        | (refine seg_mem (f := 54) (args := [.agg [.v (.int .i64 op.kind), .v (S op.key), .v (S op.value), .v (.int .i64 op.version)]]) (V := .int .i64 0) ?_ ?_; exact fun ρ w h => check_at op 0 w h2.1)
        | (refine call_mem (f := 28) (args := [.agg [.v (.int .i64 op.kind), .v (S op.key), .v (S op.value), .v (.int .i64 op.version)]]) (V := .bool false) ?_ ?_; exact fun ρ w h => hr ▸ reads_any op w)
        | (refine quiet_mem (f := 28) (args := [.agg [.v (.int .i64 op.kind), .v (S op.key), .v (S op.value), .v (.int .i64 op.version)]]) (V := .bool false) ?_ ?_; exact fun ρ w h => hr ▸ reads_any op w)
        | (refine seg_mem (f := 28) (args := [.agg [.v (.int .i64 op.kind), .v (S op.key), .v (S op.value), .v (.int .i64 op.version)]]) (V := .bool false) ?_ ?_; exact fun ρ w h => hr ▸ reads_any op w)
        | refine Need.go (by first | omega | decide | (simp <;> omega) | fail) ?_
        | refine Need.go (by first | (simp [Value.oneCell'] <;> omega) | fail) ?_
        | refine Need.go ⟨rfl, by omega, getD_one rfl rfl⟩ ?_
        | refine Need.go ⟨rfl, by omega, fun _ _ _ _ => rfl⟩ ?_
        | (refine Br.both (fun h => ?_) (fun h => ?_) <;> first | (exfalso; omega) | skip))
    all_goals (conv => whnf)
    all_goals
      refine ⟨_, _, ⟨rfl, rfl⟩, by simp, trivial, less4 ?_ ?_⟩
      all_goals repeat' (first | exact trivial | exact .inl ⟨rfl, rfl⟩ | rfl | exact .inr ⟨_, rfl, rfl, rfl⟩ | exact ⟨_, rfl, trivial⟩ | exact ⟨_, rfl, rfl⟩ | exact ⟨_, rfl, ⟨rfl, rfl, rfl⟩, fun _ _ _ _ => rfl⟩ | exact ⟨_, rfl, ⟨rfl, rfl, .inl rfl⟩, rfl⟩ | exact ⟨_, rfl, ⟨rfl, rfl, .inr rfl⟩, rfl⟩ | exact ⟨_, rfl, ⟨rfl, rfl, rfl, rfl, rfl⟩, rfl⟩ | exact ⟨_, rfl, ⟨rfl, rfl⟩, fun _ => Iff.rfl⟩ | refine ⟨_, rfl, rfl, ?_⟩ | refine ⟨_, rfl, ⟨rfl, rfl, rfl⟩, ?_⟩ | refine And.intro ?_ ?_)
set_option maxRecDepth 100000 in
set_option maxHeartbeats 4000000 in
theorem logAppend_no (l : LogM) (hl : l.ok) (e : EntM) (he : ¬ logErr l e = 0) : Spec Try.prog 19 [.p 0 0, entS e] (logH l) fun s H1 => s = .tup [resS resZ, .v (.int .i64 (logErr l e))] ∧ H1 = logH l := by
  have hl2 := hl.2
  by_cases hn : e.seq ≤ (l.la e.client.toNat).1 ∧ ¬ (e.client < 0 ∨ 6 ≤ e.client ∨ e.seq < 1 ∨ ¬ chkO e.op = 0 ∨ e.op.kind = 1) ∧ ¬ 4096 ≤ l.ents.length ∧ e.index = l.ents.length + 1
  · obtain ⟨n1, n2, n3, n4⟩ := hn
    rw [logErr_71 n2 n3 n4 n1]
    exact logAppend_71 l e.index e.client e.seq e.op (by omega) (by omega) (by omega) (by omega) n4 n1
  have hn : ¬ (e.client < 0 ∨ 6 ≤ e.client ∨ e.seq < 1 ∨ ¬ chkO e.op = 0 ∨ e.op.kind = 1) → ¬ 4096 ≤ l.ents.length → ¬ e.index = l.ents.length + 1 := fun a b c => he (logErr_0.2 (by
    have := not_and.1 hn
    omega))
  refine spec_x Try.func19 rfl 4 rfl rfl fun w0 U => ?_
  by_cases h1 : e.client < 0 ∨ 6 ≤ e.client ∨ e.seq < 1
  · rw [logErr_2 (by omega)]
    repeat' ((conv => whnf); first
        | with_reducible refine Br.tt ?_
        | with_reducible refine Br.ff ?_
        | with_reducible refine Br.nt ?_
        | with_reducible refine Br.nf ?_
        | with_reducible refine Br.eeI ?_
        | with_reducible refine Br.nnI ?_
        | refine Br.yes (by decide) ?_
        | refine Br.no (by decide) ?_
        | refine Need.go rfl ?_
        | refine QuiD.quiet (by kernel_rfl) ?_
        | refine draw_go tabOK (by kernel_rfl) ?_
        | refine Need.go ⟨rfl, rfl⟩ ?_
        | refine Need.go ⟨⟨rfl, rfl, rfl⟩, rfl⟩ ?_
        | (with_reducible refine Br.dec (fun h => ?_) (fun h => ?_) <;> first | (exfalso; omega) | skip)
        | (with_reducible refine Br.eqI (fun h => ?_) (fun h => ?_) <;> first | (exfalso; omega) | skip)
        | (with_reducible refine Br.neI (fun h => ?_) (fun h => ?_) <;> first | (exfalso; omega) | skip)
        | (with_reducible refine Br.eqS (fun h => ?_) (fun h => ?_) <;> first | (exfalso; omega) | skip)
        | (with_reducible refine Br.neS (fun h => ?_) (fun h => ?_) <;> first | (exfalso; omega) | skip)
        | (with_reducible refine Br.nd (fun h => ?_) (fun h => ?_) <;> first | (exfalso; omega) | skip)
        | refine Ar.i64 (by omega) (by omega) ?_
        | refine call_inlineL (f := 50) Try.func50 rfl ?_
        | refine Need.go (by first | omega | decide | (simp <;> omega) | fail) ?_
        | refine Need.go (by first | (simp [Value.oneCell'] <;> omega) | fail) ?_
        | refine Need.go ⟨rfl, by omega, getD_one rfl rfl⟩ ?_
        | refine Need.go ⟨rfl, by omega, fun _ _ _ _ => rfl⟩ ?_
        | (refine Br.both (fun h => ?_) (fun h => ?_) <;> first | (exfalso; omega) | skip))
    all_goals (conv => whnf)
    all_goals
      refine ⟨_, _, ⟨rfl, rfl⟩, by simp, trivial, less4 ?_ ?_⟩
      all_goals repeat' (first | exact trivial | exact .inl ⟨rfl, rfl⟩ | rfl | exact .inr ⟨_, rfl, rfl, rfl⟩ | exact ⟨_, rfl, trivial⟩ | exact ⟨_, rfl, rfl⟩ | exact ⟨_, rfl, ⟨rfl, rfl, rfl⟩, fun _ _ _ _ => rfl⟩ | exact ⟨_, rfl, ⟨rfl, rfl, .inl rfl⟩, rfl⟩ | exact ⟨_, rfl, ⟨rfl, rfl, .inr rfl⟩, rfl⟩ | exact ⟨_, rfl, ⟨rfl, rfl, rfl, rfl, rfl⟩, rfl⟩ | exact ⟨_, rfl, ⟨rfl, rfl⟩, fun _ => Iff.rfl⟩ | refine ⟨_, rfl, rfl, ?_⟩ | refine ⟨_, rfl, ⟨rfl, rfl, rfl⟩, ?_⟩ | refine And.intro ?_ ?_)
  by_cases h2 : chkO e.op = 0 ∧ ¬ e.op.kind = 1
  · have hq : ¬ (e.client < 0 ∨ 6 ≤ e.client ∨ e.seq < 1 ∨ ¬ chkO e.op = 0 ∨ e.op.kind = 1) := by omega
    have hr : (e.op.kind == 1 && chkO e.op == 0) = false := by simp; intro h; exact absurd h h2.2
    by_cases h3 : 4096 ≤ l.ents.length
    · rw [logErr_60 hq h3]
      repeat' ((conv => whnf); first
          | with_reducible refine Br.tt ?_
          | with_reducible refine Br.ff ?_
          | with_reducible refine Br.nt ?_
          | with_reducible refine Br.nf ?_
          | with_reducible refine Br.eeI ?_
          | with_reducible refine Br.nnI ?_
          | refine Br.yes (by decide) ?_
          | refine Br.no (by decide) ?_
          | refine Need.go rfl ?_
          | refine QuiD.quiet (by kernel_rfl) ?_
          | refine draw_go tabOK (by kernel_rfl) ?_
          | refine Need.go ⟨rfl, rfl⟩ ?_
          | refine Need.go ⟨⟨rfl, rfl, rfl⟩, rfl⟩ ?_
          | (with_reducible refine Br.dec (fun h => ?_) (fun h => ?_) <;> first | (exfalso; omega) | skip)
          | (with_reducible refine Br.eqI (fun h => ?_) (fun h => ?_) <;> first | (exfalso; omega) | skip)
          | (with_reducible refine Br.neI (fun h => ?_) (fun h => ?_) <;> first | (exfalso; omega) | skip)
          | (with_reducible refine Br.eqS (fun h => ?_) (fun h => ?_) <;> first | (exfalso; omega) | skip)
          | (with_reducible refine Br.neS (fun h => ?_) (fun h => ?_) <;> first | (exfalso; omega) | skip)
          | (with_reducible refine Br.nd (fun h => ?_) (fun h => ?_) <;> first | (exfalso; omega) | skip)
          | refine Ar.i64 (by omega) (by omega) ?_
          | refine call_inlineL (f := 50) Try.func50 rfl ?_
          | (refine call_mem (f := 54) (args := [.agg [.v (.int .i64 e.op.kind), .v (S e.op.key), .v (S e.op.value), .v (.int .i64 e.op.version)]]) (V := .int .i64 0) ?_ ?_; exact fun ρ w h => check_at e.op 0 w h2.1)
          | (refine quiet_mem (f := 54) (args := [.agg [.v (.int .i64 e.op.kind), .v (S e.op.key), .v (S e.op.value), .v (.int .i64 e.op.version)]]) (V := .int .i64 0) ?_ ?_; exact fun ρ w h => check_at e.op 0 w h2.1)
          | (refine seg_mem (f := 54) (args := [.agg [.v (.int .i64 e.op.kind), .v (S e.op.key), .v (S e.op.value), .v (.int .i64 e.op.version)]]) (V := .int .i64 0) ?_ ?_; exact fun ρ w h => check_at e.op 0 w h2.1)
          | (refine call_mem (f := 28) (args := [.agg [.v (.int .i64 e.op.kind), .v (S e.op.key), .v (S e.op.value), .v (.int .i64 e.op.version)]]) (V := .bool false) ?_ ?_; exact fun ρ w h => hr ▸ reads_any e.op w)
          | (refine quiet_mem (f := 28) (args := [.agg [.v (.int .i64 e.op.kind), .v (S e.op.key), .v (S e.op.value), .v (.int .i64 e.op.version)]]) (V := .bool false) ?_ ?_; exact fun ρ w h => hr ▸ reads_any e.op w)
          | (refine seg_mem (f := 28) (args := [.agg [.v (.int .i64 e.op.kind), .v (S e.op.key), .v (S e.op.value), .v (.int .i64 e.op.version)]]) (V := .bool false) ?_ ?_; exact fun ρ w h => hr ▸ reads_any e.op w)
          | refine Need.go (by first | omega | decide | (simp <;> omega) | fail) ?_
          | refine Need.go (by first | (simp [Value.oneCell'] <;> omega) | fail) ?_
          | refine Need.go ⟨rfl, by omega, getD_one rfl rfl⟩ ?_
          | refine Need.go ⟨rfl, by omega, fun _ _ _ _ => rfl⟩ ?_
          | (refine Br.both (fun h => ?_) (fun h => ?_) <;> first | (exfalso; omega) | skip))
      all_goals (conv => whnf)
      all_goals
        refine ⟨_, _, ⟨rfl, rfl⟩, by simp, trivial, less4 ?_ ?_⟩
        all_goals repeat' (first | exact trivial | exact .inl ⟨rfl, rfl⟩ | rfl | exact .inr ⟨_, rfl, rfl, rfl⟩ | exact ⟨_, rfl, trivial⟩ | exact ⟨_, rfl, rfl⟩ | exact ⟨_, rfl, ⟨rfl, rfl, rfl⟩, fun _ _ _ _ => rfl⟩ | exact ⟨_, rfl, ⟨rfl, rfl, .inl rfl⟩, rfl⟩ | exact ⟨_, rfl, ⟨rfl, rfl, .inr rfl⟩, rfl⟩ | exact ⟨_, rfl, ⟨rfl, rfl, rfl, rfl, rfl⟩, rfl⟩ | exact ⟨_, rfl, ⟨rfl, rfl⟩, fun _ => Iff.rfl⟩ | refine ⟨_, rfl, rfl, ?_⟩ | refine ⟨_, rfl, ⟨rfl, rfl, rfl⟩, ?_⟩ | refine And.intro ?_ ?_)
    by_cases h4 : e.index = l.ents.length + 1
    · exfalso
      have := hn hq h3 h4
      omega
    · rw [logErr_70 hq h3 h4]
      repeat' ((conv => whnf); first
          | with_reducible refine Br.tt ?_
          | with_reducible refine Br.ff ?_
          | with_reducible refine Br.nt ?_
          | with_reducible refine Br.nf ?_
          | with_reducible refine Br.eeI ?_
          | with_reducible refine Br.nnI ?_
          | refine Br.yes (by decide) ?_
          | refine Br.no (by decide) ?_
          | refine Need.go rfl ?_
          | refine QuiD.quiet (by kernel_rfl) ?_
          | refine draw_go tabOK (by kernel_rfl) ?_
          | refine Need.go ⟨rfl, rfl⟩ ?_
          | refine Need.go ⟨⟨rfl, rfl, rfl⟩, rfl⟩ ?_
          | (with_reducible refine Br.dec (fun h => ?_) (fun h => ?_) <;> first | (exfalso; omega) | skip)
          | (with_reducible refine Br.eqI (fun h => ?_) (fun h => ?_) <;> first | (exfalso; omega) | skip)
          | (with_reducible refine Br.neI (fun h => ?_) (fun h => ?_) <;> first | (exfalso; omega) | skip)
          | (with_reducible refine Br.eqS (fun h => ?_) (fun h => ?_) <;> first | (exfalso; omega) | skip)
          | (with_reducible refine Br.neS (fun h => ?_) (fun h => ?_) <;> first | (exfalso; omega) | skip)
          | (with_reducible refine Br.nd (fun h => ?_) (fun h => ?_) <;> first | (exfalso; omega) | skip)
          | refine Ar.i64 (by omega) (by omega) ?_
          | refine call_inlineL (f := 50) Try.func50 rfl ?_
          | (refine call_mem (f := 54) (args := [.agg [.v (.int .i64 e.op.kind), .v (S e.op.key), .v (S e.op.value), .v (.int .i64 e.op.version)]]) (V := .int .i64 0) ?_ ?_; exact fun ρ w h => check_at e.op 0 w h2.1)
          | (refine quiet_mem (f := 54) (args := [.agg [.v (.int .i64 e.op.kind), .v (S e.op.key), .v (S e.op.value), .v (.int .i64 e.op.version)]]) (V := .int .i64 0) ?_ ?_; exact fun ρ w h => check_at e.op 0 w h2.1)
          | (refine seg_mem (f := 54) (args := [.agg [.v (.int .i64 e.op.kind), .v (S e.op.key), .v (S e.op.value), .v (.int .i64 e.op.version)]]) (V := .int .i64 0) ?_ ?_; exact fun ρ w h => check_at e.op 0 w h2.1)
          | (refine call_mem (f := 28) (args := [.agg [.v (.int .i64 e.op.kind), .v (S e.op.key), .v (S e.op.value), .v (.int .i64 e.op.version)]]) (V := .bool false) ?_ ?_; exact fun ρ w h => hr ▸ reads_any e.op w)
          | (refine quiet_mem (f := 28) (args := [.agg [.v (.int .i64 e.op.kind), .v (S e.op.key), .v (S e.op.value), .v (.int .i64 e.op.version)]]) (V := .bool false) ?_ ?_; exact fun ρ w h => hr ▸ reads_any e.op w)
          | (refine seg_mem (f := 28) (args := [.agg [.v (.int .i64 e.op.kind), .v (S e.op.key), .v (S e.op.value), .v (.int .i64 e.op.version)]]) (V := .bool false) ?_ ?_; exact fun ρ w h => hr ▸ reads_any e.op w)
          | refine Need.go (by first | omega | decide | (simp <;> omega) | fail) ?_
          | refine Need.go (by first | (simp [Value.oneCell'] <;> omega) | fail) ?_
          | refine Need.go ⟨rfl, by omega, getD_one rfl rfl⟩ ?_
          | refine Need.go ⟨rfl, by omega, fun _ _ _ _ => rfl⟩ ?_
          | (refine Br.both (fun h => ?_) (fun h => ?_) <;> first | (exfalso; omega) | skip))
      all_goals (conv => whnf)
      all_goals
        refine ⟨_, _, ⟨rfl, rfl⟩, by simp, trivial, less4 ?_ ?_⟩
        all_goals repeat' (first | exact trivial | exact .inl ⟨rfl, rfl⟩ | rfl | exact .inr ⟨_, rfl, rfl, rfl⟩ | exact ⟨_, rfl, trivial⟩ | exact ⟨_, rfl, rfl⟩ | exact ⟨_, rfl, ⟨rfl, rfl, rfl⟩, fun _ _ _ _ => rfl⟩ | exact ⟨_, rfl, ⟨rfl, rfl, .inl rfl⟩, rfl⟩ | exact ⟨_, rfl, ⟨rfl, rfl, .inr rfl⟩, rfl⟩ | exact ⟨_, rfl, ⟨rfl, rfl, rfl, rfl, rfl⟩, rfl⟩ | exact ⟨_, rfl, ⟨rfl, rfl⟩, fun _ => Iff.rfl⟩ | refine ⟨_, rfl, rfl, ?_⟩ | refine ⟨_, rfl, ⟨rfl, rfl, rfl⟩, ?_⟩ | refine And.intro ?_ ?_)
  · rw [logErr_2 (by omega)]
    by_cases h6 : chkO e.op = 0
    · have hr : (e.op.kind == 1 && chkO e.op == 0) = true := by simp; omega
      repeat' ((conv => whnf); first
          | with_reducible refine Br.tt ?_
          | with_reducible refine Br.ff ?_
          | with_reducible refine Br.nt ?_
          | with_reducible refine Br.nf ?_
          | with_reducible refine Br.eeI ?_
          | with_reducible refine Br.nnI ?_
          | refine Br.yes (by decide) ?_
          | refine Br.no (by decide) ?_
          | refine Need.go rfl ?_
          | refine QuiD.quiet (by kernel_rfl) ?_
          | refine draw_go tabOK (by kernel_rfl) ?_
          | refine Need.go ⟨rfl, rfl⟩ ?_
          | refine Need.go ⟨⟨rfl, rfl, rfl⟩, rfl⟩ ?_
          | (with_reducible refine Br.dec (fun h => ?_) (fun h => ?_) <;> first | (exfalso; omega) | skip)
          | (with_reducible refine Br.eqI (fun h => ?_) (fun h => ?_) <;> first | (exfalso; omega) | skip)
          | (with_reducible refine Br.neI (fun h => ?_) (fun h => ?_) <;> first | (exfalso; omega) | skip)
          | (with_reducible refine Br.eqS (fun h => ?_) (fun h => ?_) <;> first | (exfalso; omega) | skip)
          | (with_reducible refine Br.neS (fun h => ?_) (fun h => ?_) <;> first | (exfalso; omega) | skip)
          | (with_reducible refine Br.nd (fun h => ?_) (fun h => ?_) <;> first | (exfalso; omega) | skip)
          | refine Ar.i64 (by omega) (by omega) ?_
          | refine call_inlineL (f := 50) Try.func50 rfl ?_
          | (refine call_mem (f := 54) (args := [.agg [.v (.int .i64 e.op.kind), .v (S e.op.key), .v (S e.op.value), .v (.int .i64 e.op.version)]]) (V := .int .i64 0) ?_ ?_; exact fun ρ w h => check_at e.op 0 w h6)
          | (refine quiet_mem (f := 54) (args := [.agg [.v (.int .i64 e.op.kind), .v (S e.op.key), .v (S e.op.value), .v (.int .i64 e.op.version)]]) (V := .int .i64 0) ?_ ?_; exact fun ρ w h => check_at e.op 0 w h6)
          | (refine seg_mem (f := 54) (args := [.agg [.v (.int .i64 e.op.kind), .v (S e.op.key), .v (S e.op.value), .v (.int .i64 e.op.version)]]) (V := .int .i64 0) ?_ ?_; exact fun ρ w h => check_at e.op 0 w h6)
          | (refine call_mem (f := 28) (args := [.agg [.v (.int .i64 e.op.kind), .v (S e.op.key), .v (S e.op.value), .v (.int .i64 e.op.version)]]) (V := .bool true) ?_ ?_; exact fun ρ w h => hr ▸ reads_any e.op w)
          | (refine quiet_mem (f := 28) (args := [.agg [.v (.int .i64 e.op.kind), .v (S e.op.key), .v (S e.op.value), .v (.int .i64 e.op.version)]]) (V := .bool true) ?_ ?_; exact fun ρ w h => hr ▸ reads_any e.op w)
          | (refine seg_mem (f := 28) (args := [.agg [.v (.int .i64 e.op.kind), .v (S e.op.key), .v (S e.op.value), .v (.int .i64 e.op.version)]]) (V := .bool true) ?_ ?_; exact fun ρ w h => hr ▸ reads_any e.op w)
          | refine Need.go (by first | omega | decide | (simp <;> omega) | fail) ?_
          | refine Need.go (by first | (simp [Value.oneCell'] <;> omega) | fail) ?_
          | refine Need.go ⟨rfl, by omega, getD_one rfl rfl⟩ ?_
          | refine Need.go ⟨rfl, by omega, fun _ _ _ _ => rfl⟩ ?_
          | (refine Br.both (fun h => ?_) (fun h => ?_) <;> first | (exfalso; omega) | skip))
      all_goals (conv => whnf)
      all_goals
        refine ⟨_, _, ⟨rfl, rfl⟩, by simp, trivial, less4 ?_ ?_⟩
        all_goals repeat' (first | exact trivial | exact .inl ⟨rfl, rfl⟩ | rfl | exact .inr ⟨_, rfl, rfl, rfl⟩ | exact ⟨_, rfl, trivial⟩ | exact ⟨_, rfl, rfl⟩ | exact ⟨_, rfl, ⟨rfl, rfl, rfl⟩, fun _ _ _ _ => rfl⟩ | exact ⟨_, rfl, ⟨rfl, rfl, .inl rfl⟩, rfl⟩ | exact ⟨_, rfl, ⟨rfl, rfl, .inr rfl⟩, rfl⟩ | exact ⟨_, rfl, ⟨rfl, rfl, rfl, rfl, rfl⟩, rfl⟩ | exact ⟨_, rfl, ⟨rfl, rfl⟩, fun _ => Iff.rfl⟩ | refine ⟨_, rfl, rfl, ?_⟩ | refine ⟨_, rfl, ⟨rfl, rfl, rfl⟩, ?_⟩ | refine And.intro ?_ ?_)
    · repeat' ((conv => whnf); first
        | with_reducible refine Br.tt ?_
        | with_reducible refine Br.ff ?_
        | with_reducible refine Br.nt ?_
        | with_reducible refine Br.nf ?_
        | with_reducible refine Br.eeI ?_
        | with_reducible refine Br.nnI ?_
        | refine Br.yes (by decide) ?_
        | refine Br.no (by decide) ?_
        | refine Need.go rfl ?_
        | refine QuiD.quiet (by kernel_rfl) ?_
        | refine draw_go tabOK (by kernel_rfl) ?_
        | refine Need.go ⟨rfl, rfl⟩ ?_
        | refine Need.go ⟨⟨rfl, rfl, rfl⟩, rfl⟩ ?_
        | (with_reducible refine Br.dec (fun h => ?_) (fun h => ?_) <;> first | (exfalso; omega) | skip)
        | (with_reducible refine Br.eqI (fun h => ?_) (fun h => ?_) <;> first | (exfalso; omega) | skip)
        | (with_reducible refine Br.neI (fun h => ?_) (fun h => ?_) <;> first | (exfalso; omega) | skip)
        | (with_reducible refine Br.eqS (fun h => ?_) (fun h => ?_) <;> first | (exfalso; omega) | skip)
        | (with_reducible refine Br.neS (fun h => ?_) (fun h => ?_) <;> first | (exfalso; omega) | skip)
        | (with_reducible refine Br.nd (fun h => ?_) (fun h => ?_) <;> first | (exfalso; omega) | skip)
        | refine Ar.i64 (by omega) (by omega) ?_
        | refine call_inlineL (f := 50) Try.func50 rfl ?_
        | (refine call_mem (f := 54) (args := [.agg [.v (.int .i64 e.op.kind), .v (S e.op.key), .v (S e.op.value), .v (.int .i64 e.op.version)]]) (V := .int .i64 (chkO e.op)) ?_ ?_; exact fun ρ w h => check_any e.op w)
        | (refine quiet_mem (f := 54) (args := [.agg [.v (.int .i64 e.op.kind), .v (S e.op.key), .v (S e.op.value), .v (.int .i64 e.op.version)]]) (V := .int .i64 (chkO e.op)) ?_ ?_; exact fun ρ w h => check_any e.op w)
        | (refine seg_mem (f := 54) (args := [.agg [.v (.int .i64 e.op.kind), .v (S e.op.key), .v (S e.op.value), .v (.int .i64 e.op.version)]]) (V := .int .i64 (chkO e.op)) ?_ ?_; exact fun ρ w h => check_any e.op w)
        | refine Need.go (by first | omega | decide | (simp <;> omega) | fail) ?_
        | refine Need.go (by first | (simp [Value.oneCell'] <;> omega) | fail) ?_
        | refine Need.go ⟨rfl, by omega, getD_one rfl rfl⟩ ?_
        | refine Need.go ⟨rfl, by omega, fun _ _ _ _ => rfl⟩ ?_
        | (refine Br.both (fun h => ?_) (fun h => ?_) <;> first | (exfalso; omega) | skip))
      all_goals (conv => whnf)
      all_goals
        refine ⟨_, _, ⟨rfl, rfl⟩, by simp, trivial, less4 ?_ ?_⟩
        all_goals repeat' (first | exact trivial | exact .inl ⟨rfl, rfl⟩ | rfl | exact .inr ⟨_, rfl, rfl, rfl⟩ | exact ⟨_, rfl, trivial⟩ | exact ⟨_, rfl, rfl⟩ | exact ⟨_, rfl, ⟨rfl, rfl, rfl⟩, fun _ _ _ _ => rfl⟩ | exact ⟨_, rfl, ⟨rfl, rfl, .inl rfl⟩, rfl⟩ | exact ⟨_, rfl, ⟨rfl, rfl, .inr rfl⟩, rfl⟩ | exact ⟨_, rfl, ⟨rfl, rfl, rfl, rfl, rfl⟩, rfl⟩ | exact ⟨_, rfl, ⟨rfl, rfl⟩, fun _ => Iff.rfl⟩ | refine ⟨_, rfl, rfl, ?_⟩ | refine ⟨_, rfl, ⟨rfl, rfl, rfl⟩, ?_⟩ | refine And.intro ?_ ?_)
end Go.Proofs.Ytlphkjbadjdleaa
